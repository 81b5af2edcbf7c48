/- What the claim of CardKindFinds needs, out of the session's texts, in their order. -/
import Derived.Test.YtfgogfdbjbnlbaaDoorKuE
import Derived.Shelf.Strings.Builder1
import Derived.Shelf.Small.Utf8
import Derived.Shelf.Small.Strs
import Derived.Shelf.Strings.BuilderF
import Derived.Shelf.Strings.BuilderK
import Derived.Shelf.Strings.Search1
import Derived.Shelf.Strings.Search2
import Derived.Shelf.Strings.Search3
import Derived.Shelf.Strings.Cut
import Derived.Shelf.LaysM
import Derived.Shelf.Strings.Shaped
import Derived.Shelf.Strings.Fields
import Derived.Shelf.Strings.SplitShaped
import Derived.Shelf.Unicode.Latin
import Derived.Shelf.Strings.Runes
import Derived.Shelf.Unicode.Is16White
import Derived.Shelf.Unicode.IsSpaceAny
import Derived.Shelf.Unicode.Is16WhiteD
import Derived.Shelf.Unicode.IsSpaceAnyD
import Derived.Shelf.Strings.FieldsAny
import Derived.Shelf.Strings.FieldsFuncAny
import Derived.Shelf.Unicode.Is16Any
import Derived.Shelf.Unicode.Is32Any
import Derived.Shelf.Unicode.ExclAny
section
namespace Go.Proofs
open Go.Shelf
def Tryd.lays169_ren : Go.Shelf.Ren := ⟨fun | 169 => 21 | n => n, fun | 70 => 40 | 9 => 9 | 0 => 0 | 72 => 43 | 37 => 41 | 127 => 69 | 3 => 3 | 5 => 5 | n => n, fun | n => n⟩
theorem Tryd.lays169 : Go.Proofs.Lays.n169 Tryd.prog Tryd.lays169_ren := {
  mixed := by kernel_rfl
  f169 := Tryd.func21.trans (congrArg some (by kernel_rfl))
  t0 := Tryd.underlying0
  a0 := Tryd.isAgg0
  z0 := Tryd.sizeOf0
  v0 := Tryd.zeroValue0
  t3 := Tryd.underlying3
  a3 := Tryd.isAgg3
  z3 := Tryd.sizeOf3
  v3 := Tryd.zeroValue3
  t9 := Tryd.underlying9
  a9 := Tryd.isAgg9
  z9 := Tryd.sizeOf9
  v9 := Tryd.zeroValue9
  t37 := Tryd.underlying41
  a37 := Tryd.isAgg41
  z37 := Tryd.sizeOf41
  v37 := Tryd.zeroValue41
  t70 := Tryd.underlying40
  a70 := Tryd.isAgg40
  z70 := Tryd.sizeOf40
  v70 := Tryd.zeroValue40
  t72 := Tryd.underlying43
  a72 := Tryd.isAgg43
  z72 := Tryd.sizeOf43
  v72 := Tryd.zeroValue43
  t127 := Tryd.underlying69
  a127 := Tryd.isAgg69
  z127 := Tryd.sizeOf69
  v127 := Tryd.zeroValue69 }
theorem Tryd.Builder_Extra_169 : Builder.Extra Tryd.prog Tryd.lays169_ren := {
  sizeBuilder := by kernel_rfl
  liesBuilder := by kernel_rfl
  t5 := Tryd.underlying5
  a5 := Tryd.isAgg5
  z5 := Tryd.sizeOf5
  v5 := Tryd.zeroValue5
  infoByte := by kernel_rfl
  cellsByte := by kernel_rfl
  sizeByte := by kernel_rfl
  neB5 := by decide }
open Go.RowKit in
theorem Tryd.Builder_String_any_k (B b : Nat) (l : List UInt8) (w : World) (h : Lib.IsBuilderF 43 5 B b (Lib.byteCells l) w) (hBw : B ≤ w.heap.size) :
    Calls Tryd.prog 21 #[.pointer (some ⟨b, 0, none⟩)] w fun e w' => e = .returned (.string ⟨l.toArray⟩) ∧ (Lib.IsBuilderF 43 5 B b (Lib.byteCells l) w' ∧ Below B w w' ∧ Lib.OthersKept 5 (some b) w w') := Any.Builder_String_any_k Tryd.lays169 Tryd.Builder_Extra_169 B b l w h hBw
def Tryd.lays219_ren : Go.Shelf.Ren := ⟨fun | 219 => 77 | 217 => 47 | 225 => 37 | 224 => 36 | 267 => 81 | 266 => 63 | 314 => 83 | n => n, fun | 9 => 9 | 3 => 3 | 4 => 4 | 5 => 5 | 46 => 72 | 146 => 141 | 51 => 102 | n => n, fun | 1 => 2 | n => n⟩
theorem Tryd.lays219 : Go.Proofs.Lays.n219 Tryd.prog Tryd.lays219_ren := {
  mixed := by kernel_rfl
  f217 := Tryd.func47.trans (congrArg some (by kernel_rfl))
  f219 := Tryd.func77.trans (congrArg some (by kernel_rfl))
  f224 := Tryd.func36.trans (congrArg some (by kernel_rfl))
  f225 := Tryd.func37.trans (congrArg some (by kernel_rfl))
  f266 := Tryd.func63.trans (congrArg some (by kernel_rfl))
  f267 := Tryd.func81.trans (congrArg some (by kernel_rfl))
  f314 := Tryd.func83.trans (congrArg some (by kernel_rfl))
  t3 := Tryd.underlying3
  a3 := Tryd.isAgg3
  z3 := Tryd.sizeOf3
  v3 := Tryd.zeroValue3
  t4 := Tryd.underlying4
  a4 := Tryd.isAgg4
  z4 := Tryd.sizeOf4
  v4 := Tryd.zeroValue4
  t5 := Tryd.underlying5
  a5 := Tryd.isAgg5
  z5 := Tryd.sizeOf5
  v5 := Tryd.zeroValue5
  t9 := Tryd.underlying9
  a9 := Tryd.isAgg9
  z9 := Tryd.sizeOf9
  v9 := Tryd.zeroValue9
  t46 := Tryd.underlying72
  a46 := Tryd.isAgg72
  z46 := Tryd.sizeOf72
  v46 := Tryd.zeroValue72
  t51 := Tryd.underlying102
  a51 := Tryd.isAgg102
  z51 := Tryd.sizeOf102
  v51 := Tryd.zeroValue102
  t146 := Tryd.underlying141
  a146 := Tryd.isAgg141
  z146 := Tryd.sizeOf141
  v146 := Tryd.zeroValue141
  g1 := by kernel_rfl }
open Go.RowKit Go.Lib in
theorem Tryd.stringslite_Index_one (s : ByteArray) (c : UInt8) (w : World) :
    Calls Tryd.prog 77 #[.string s, .string ⟨#[c]⟩] w fun e w' => e = .returned (.int .i64 (Lib.indexByte s.data.toList c)) ∧ w' = w := Any.stringslite_Index_one Tryd.lays219 s c w
def Tryd.lays144_ren : Go.Shelf.Ren := ⟨fun | 144 => 90 | 143 => 93 | 219 => 77 | 217 => 47 | 225 => 37 | 224 => 36 | 267 => 81 | 266 => 63 | 314 => 83 | n => n, fun | 9 => 9 | 4 => 4 | 3 => 3 | 5 => 5 | 46 => 72 | 146 => 141 | 51 => 102 | n => n, fun | 1 => 2 | n => n⟩
theorem Tryd.lays144 : Go.Proofs.Lays.n144 Tryd.prog Tryd.lays144_ren := {
  mixed := by kernel_rfl
  f143 := Tryd.func93.trans (congrArg some (by kernel_rfl))
  f144 := Tryd.func90.trans (congrArg some (by kernel_rfl))
  f217 := Tryd.func47.trans (congrArg some (by kernel_rfl))
  f219 := Tryd.func77.trans (congrArg some (by kernel_rfl))
  f224 := Tryd.func36.trans (congrArg some (by kernel_rfl))
  f225 := Tryd.func37.trans (congrArg some (by kernel_rfl))
  f266 := Tryd.func63.trans (congrArg some (by kernel_rfl))
  f267 := Tryd.func81.trans (congrArg some (by kernel_rfl))
  f314 := Tryd.func83.trans (congrArg some (by kernel_rfl))
  t3 := Tryd.underlying3
  a3 := Tryd.isAgg3
  z3 := Tryd.sizeOf3
  v3 := Tryd.zeroValue3
  t4 := Tryd.underlying4
  a4 := Tryd.isAgg4
  z4 := Tryd.sizeOf4
  v4 := Tryd.zeroValue4
  t5 := Tryd.underlying5
  a5 := Tryd.isAgg5
  z5 := Tryd.sizeOf5
  v5 := Tryd.zeroValue5
  t9 := Tryd.underlying9
  a9 := Tryd.isAgg9
  z9 := Tryd.sizeOf9
  v9 := Tryd.zeroValue9
  t46 := Tryd.underlying72
  a46 := Tryd.isAgg72
  z46 := Tryd.sizeOf72
  v46 := Tryd.zeroValue72
  t51 := Tryd.underlying102
  a51 := Tryd.isAgg102
  z51 := Tryd.sizeOf102
  v51 := Tryd.zeroValue102
  t146 := Tryd.underlying141
  a146 := Tryd.isAgg141
  z146 := Tryd.sizeOf141
  v146 := Tryd.zeroValue141
  g1 := by kernel_rfl }
open Go.RowKit Go.Lib in
theorem Tryd.strings_Contains_one (s : ByteArray) (c : UInt8) (w : World) :
    Calls Tryd.prog 90 #[.string s, .string ⟨#[c]⟩] w fun e w' => e = .returned (.bool (decide (0 ≤ Lib.indexByte s.data.toList c))) ∧ w' = w := Any.strings_Contains_one Tryd.lays144 s c w
def Tryd.lays157_ren : Go.Shelf.Ren := ⟨fun | 157 => 19 | 229 => 31 | 199 => 32 | 261 => 45 | 311 => 61 | 312 => 62 | n => n, fun | 9 => 9 | 31 => 37 | 3 => 3 | 5 => 5 | 4 => 4 | 119 => 66 | 0 => 0 | 40 => 68 | 152 => 99 | 21 => 21 | 154 => 101 | 51 => 102 | 141 => 104 | 196 => 120 | 193 => 117 | 198 => 123 | 49 => 121 | 194 => 118 | 201 => 126 | 226 => 136 | 46 => 72 | 227 => 137 | n => n, fun | 0 => 0 | 6 => 1 | n => n⟩
theorem Tryd.lays157 : Go.Proofs.Lays.n157 Tryd.prog Tryd.lays157_ren := {
  mixed := by kernel_rfl
  f157 := Tryd.func19.trans (congrArg some (by kernel_rfl))
  f199 := Tryd.func32.trans (congrArg some (by kernel_rfl))
  f229 := Tryd.func31.trans (congrArg some (by kernel_rfl))
  f261 := Tryd.func45.trans (congrArg some (by kernel_rfl))
  f311 := Tryd.func61.trans (congrArg some (by kernel_rfl))
  f312 := Tryd.func62.trans (congrArg some (by kernel_rfl))
  t0 := Tryd.underlying0
  a0 := Tryd.isAgg0
  z0 := Tryd.sizeOf0
  v0 := Tryd.zeroValue0
  t3 := Tryd.underlying3
  a3 := Tryd.isAgg3
  z3 := Tryd.sizeOf3
  v3 := Tryd.zeroValue3
  t4 := Tryd.underlying4
  a4 := Tryd.isAgg4
  z4 := Tryd.sizeOf4
  v4 := Tryd.zeroValue4
  t5 := Tryd.underlying5
  a5 := Tryd.isAgg5
  z5 := Tryd.sizeOf5
  v5 := Tryd.zeroValue5
  t9 := Tryd.underlying9
  a9 := Tryd.isAgg9
  z9 := Tryd.sizeOf9
  v9 := Tryd.zeroValue9
  t21 := Tryd.underlying21
  a21 := Tryd.isAgg21
  z21 := Tryd.sizeOf21
  v21 := Tryd.zeroValue21
  t31 := Tryd.underlying37
  a31 := Tryd.isAgg37
  z31 := Tryd.sizeOf37
  v31 := Tryd.zeroValue37
  t40 := Tryd.underlying68
  a40 := Tryd.isAgg68
  z40 := Tryd.sizeOf68
  v40 := Tryd.zeroValue68
  t46 := Tryd.underlying72
  a46 := Tryd.isAgg72
  z46 := Tryd.sizeOf72
  v46 := Tryd.zeroValue72
  t49 := Tryd.underlying121
  a49 := Tryd.isAgg121
  z49 := Tryd.sizeOf121
  v49 := Tryd.zeroValue121
  t51 := Tryd.underlying102
  a51 := Tryd.isAgg102
  z51 := Tryd.sizeOf102
  v51 := Tryd.zeroValue102
  t119 := Tryd.underlying66
  a119 := Tryd.isAgg66
  z119 := Tryd.sizeOf66
  t141 := Tryd.underlying104
  a141 := Tryd.isAgg104
  z141 := Tryd.sizeOf104
  v141 := Tryd.zeroValue104
  t152 := Tryd.underlying99
  a152 := Tryd.isAgg99
  z152 := Tryd.sizeOf99
  v152 := Tryd.zeroValue99
  t154 := Tryd.underlying101
  a154 := Tryd.isAgg101
  z154 := Tryd.sizeOf101
  v154 := Tryd.zeroValue101
  t193 := Tryd.underlying117
  a193 := Tryd.isAgg117
  z193 := Tryd.sizeOf117
  v193 := Tryd.zeroValue117
  t194 := Tryd.underlying118
  a194 := Tryd.isAgg118
  z194 := Tryd.sizeOf118
  v194 := Tryd.zeroValue118
  t196 := Tryd.underlying120
  a196 := Tryd.isAgg120
  z196 := Tryd.sizeOf120
  v196 := Tryd.zeroValue120
  t198 := Tryd.underlying123
  a198 := Tryd.isAgg123
  z198 := Tryd.sizeOf123
  v198 := Tryd.zeroValue123
  t201 := Tryd.underlying126
  a201 := Tryd.isAgg126
  z201 := Tryd.sizeOf126
  v201 := Tryd.zeroValue126
  t226 := Tryd.underlying136
  a226 := Tryd.isAgg136
  z226 := Tryd.sizeOf136
  v226 := Tryd.zeroValue136
  t227 := Tryd.underlying137
  a227 := Tryd.isAgg137
  z227 := Tryd.sizeOf137
  v227 := Tryd.zeroValue137
  g0 := by kernel_rfl
  g6 := by kernel_rfl }
open Go.RowKit Go.Lib in
theorem Tryd.strings_Fields (s : ByteArray) (w : World) (hs : s.size < 4294967281) (hascii : ∀ (j : Nat) b, s.data.toList[j]? = some b → b.toNat < 128) (htab : Lib.TabIs Tryd.prog w "strings.asciiSpace" .u8 Lib.asciiSpaceTab) :
    Calls Tryd.prog 19 #[.string s] w fun e w' =>
      e = .returned (.slice (some ⟨w.heap.size, 0, none⟩) (Lib.fields s.data.toList).length (Lib.fields s.data.toList).length) ∧ w' = w.alloc (.cells ((Lib.fields s.data.toList).map fun l => Value.string ⟨l.toArray⟩).toArray 9) := Any.strings_Fields Tryd.lays157 (by kernel_rfl) (by kernel_rfl) s w hs hascii htab
def Tryd.lays152_ren : Go.Shelf.Ren := ⟨fun | 152 => 22 | 137 => 34 | 119 => 35 | 224 => 36 | 225 => 37 | 217 => 47 | 266 => 63 | n => n, fun | 9 => 9 | 21 => 21 | 3 => 3 | 4 => 4 | 5 => 5 | 0 => 0 | 46 => 72 | n => n, fun | n => n⟩
theorem Tryd.lays152 : Go.Proofs.Lays.n152 Tryd.prog Tryd.lays152_ren := {
  mixed := by kernel_rfl
  f119 := Tryd.func35.trans (congrArg some (by kernel_rfl))
  f137 := Tryd.func34.trans (congrArg some (by kernel_rfl))
  f152 := Tryd.func22.trans (congrArg some (by kernel_rfl))
  f217 := Tryd.func47.trans (congrArg some (by kernel_rfl))
  f224 := Tryd.func36.trans (congrArg some (by kernel_rfl))
  f225 := Tryd.func37.trans (congrArg some (by kernel_rfl))
  f266 := Tryd.func63.trans (congrArg some (by kernel_rfl))
  t0 := Tryd.underlying0
  a0 := Tryd.isAgg0
  z0 := Tryd.sizeOf0
  v0 := Tryd.zeroValue0
  t3 := Tryd.underlying3
  a3 := Tryd.isAgg3
  z3 := Tryd.sizeOf3
  v3 := Tryd.zeroValue3
  t4 := Tryd.underlying4
  a4 := Tryd.isAgg4
  z4 := Tryd.sizeOf4
  v4 := Tryd.zeroValue4
  t5 := Tryd.underlying5
  a5 := Tryd.isAgg5
  z5 := Tryd.sizeOf5
  v5 := Tryd.zeroValue5
  t9 := Tryd.underlying9
  a9 := Tryd.isAgg9
  z9 := Tryd.sizeOf9
  v9 := Tryd.zeroValue9
  t21 := Tryd.underlying21
  a21 := Tryd.isAgg21
  z21 := Tryd.sizeOf21
  v21 := Tryd.zeroValue21
  t46 := Tryd.underlying72
  a46 := Tryd.isAgg72
  z46 := Tryd.sizeOf72
  v46 := Tryd.zeroValue72 }
open Go.RowKit Go.Lib in
theorem Tryd.strings_IndexRune_ascii (s : ByteArray) (r : Int) (w : World) (h0 : 0 ≤ r) (h1 : r < 128) :
    Calls Tryd.prog 22 #[.string s, .int .i32 r] w fun e w' => e = .returned (.int .i64 (Lib.indexByte s.data.toList r.toNat.toUInt8)) ∧ w' = w := Any.strings_IndexRune_ascii Tryd.lays152 s r w h0 h1
end Go.Proofs
end
section
namespace Go.Proofs.YtfgogfdbjbnlbaaDoor.PExpr
open Go.RowKit Go.Proofs.YtfgogfdbjbnlbaaDoorW.PrintWords Go.Proofs.YtfgogfdbjbnlbaaDoorW.PrintLast Go.Proofs.YtfgogfdbjbnlbaaDoorW.PrintMore
set_option linter.unusedVariables false
set_option linter.unusedSimpArgs false
theorem dot_iff (l : List UInt8) (c : UInt8) : (0 ≤ Lib.indexByte l c) ↔ l.contains c = true := by
  induction l with
  | nil => simp [Lib.indexByte]
  | cons b l ih =>
    have hge := Lib.indexByte_ge l c
    unfold Lib.indexByte
    rw [List.contains_cons]
    by_cases hb : b = c
    · subst hb
      simp
    · have h1 : (b == c) = false := by simpa using hb
      have h2 : (c == b) = false := by simpa using fun q : c = b => hb q.symm
      rw [h1, h2]
      simp only [Bool.false_eq_true, if_false, Bool.false_or]
      rw [← ih]
      split
      · rename_i q
        have q' : Lib.indexByte l c = -1 := by simpa using q
        rw [q']
      · rename_i q
        have q' : Lib.indexByte l c ≠ -1 := by simpa using q
        constructor
        · intro _
          omega
        · intro _
          omega
theorem dot_calls (s : ByteArray) (w : World) : Calls Tryd.prog 90 #[.string s, .string sDot] w fun e w' => e = .returned (.bool (hasDot s)) ∧ w' = w := by
  refine (Tryd.strings_Contains_one s 46 w).mono ?_
  rintro e w' ⟨rfl, rfl⟩
  refine ⟨?_, rfl⟩
  congr 2
  unfold hasDot
  rw [Bool.eq_iff_iff, ← dot_iff]
  simp
theorem ne_lit {s : ByteArray} {l : Array UInt8} (h : ¬ s = ⟨l⟩) : (s.toList == l.toList) = false ∧ (s.toList = l.toList) = False := by
  have h1 : ¬ s.toList = l.toList := fun q => h ((toList_iff s ⟨l⟩).1 (by rw [q, ByteArray.toList_eq]))
  exact ⟨by simpa using h1, eq_false h1⟩
def primF (orP : Int → List Tk → Option Res) (k : Nat) (d : Int) (t : Tk) (l : List Tk) : Option Res :=
  if t.f0 = 0 then some (.ok ⟨if hasDot t.f1 = true then 2 else 1, t.f1, [], t.f2⟩ l)
  else if t.f0 = 2 then some (.ok ⟨3, t.f1, [], t.f2⟩ l)
  else if t.f0 = 3 ∧ t.f1 = sOpen then
    if d + 1 > 20 then some (.bad 31 t.f2)
    else inP (orP (d + 1)) l
  else if t.f0 = 1 ∧ (t.f1 = sTrue ∨ t.f1 = sFalse) then some (.ok ⟨4, t.f1, [], t.f2⟩ l)
  else if t.f0 = 1 ∧ hasB kept8 t.f1 = false then namedP orP k d t l
  else some (.bad 30 t.f2)
theorem primP_cons (orP : Int → List Tk → Option Res) (k : Nat) (d : Int) (t : Tk) (r : List Tk) (R : Res) (h : primP orP k d (t :: r) = some R) : (t.f0 ≠ 4 → r ≠ []) ∧ primF orP k d t (if t.f0 = 4 then t :: r else r) = some R := by
  simp only [primP, takeP] at h
  by_cases h4 : t.f0 = 4
  · rw [if_pos h4] at h ⊢
    exact ⟨fun q => absurd h4 q, h⟩
  · rw [if_neg h4] at h
    rw [if_neg h4]
    by_cases hr : r = []
    · subst hr
      cases h
    · rw [if_neg (by simpa using hr)] at h
      exact ⟨fun _ => hr, h⟩
set_option maxHeartbeats 1000000 in
set_option maxRecDepth 100000 in
theorem prim_num (g T : Nat) (d : Int) (orP : Int → List Tk → Option Res) (hp : PartC g T (d + 1) (orP (d + 1)) 41) (k : Nat) (hk : k ≤ 1000000) (hd0 : 0 ≤ d) (hd : d ≤ 20) (t : Tk) (r : List Tk) (R : Res) (w : World) (hR : Rd g T w (t :: r) d)
    (h : primP orP k d (t :: r) = some R) (c0 : t.f0 = 0) : Calls Tryd.prog 88 #[.pointer (some ⟨g, 0, none⟩)] w (Post g T d w R) := by
  have hg := hR.lt
  have hT := hR.Tlt (by simp)
  have hg1 : ∀ k, g < w.heap.size + k := fun k => by omega
  have hT1 : ∀ k, T < w.heap.size + k := fun k => by omega
  have hmf := makeFunc_run
  obtain ⟨hr, hF⟩ := primP_cons orP k d t r R h
  have HP := Aside0.mk hp
  have HR := Aside0.mk hR
  have HF := Aside0.mk hF
  clear hp hR h hF
  go_enter Tryd.func88, Tryd.ntmps88
  go_wp2_with (fail)
  refine (take_calls g T _ t r d ((HR.out.alloc _).alloc _) hr).mono ?_
  rintro e w1 ⟨rfl, hR1, hK1⟩
  have hs1 := hK1.size
  simp at hs1
  have Y0 := Aside0.mk (hK1.blk (blk_alloc (heap_alloc_new w (.cells #[.pointer (some ⟨g, 0, none⟩)] 82)) (.cells zeroNd 58)) (by omega))
  have Y1 := Aside0.mk (show w1.heap[w.heap.size + 1]? = some (.cells zeroNd 58 (0, 0)) by
    rw [← World.size_alloc w (.cells #[.pointer (some ⟨g, 0, none⟩)] 82)]
    exact hK1.blk (heap_alloc_new (w.alloc (.cells #[.pointer (some ⟨g, 0, none⟩)] 82)) (.cells zeroNd 58)) (by simp; omega))
  have YR := Aside0.mk hR1
  have YK := Aside0.mk (Kept.trans (((Kept.refl (fun k => k = g) w).alloc _).alloc _) hK1 (fun _ _ q => q))
  have hl1 : (if t.f0 = 4 then t :: r else r) ≠ [] := by
    split
    · simp
    · exact hr (by assumption)
  clear hK1 hR1
  generalize (if t.f0 = 4 then t :: r else r) = l1 at *
  unfold tokV
  have y0 := blk_cell Y0.out 0
  have y1 := fun i => blk_cell Y1.out i
  have f1 := fun i => blk_frozen Y1.out i
  simp only [zeroNd] at y1
  have hh := HF.out
  clear HF
  unfold primF at hh
  have hl2 : w.heap.size + 1 < w1.heap.size := by omega
  have hl3 : w.heap.size < w1.heap.size := by omega
  have hl4 : w.heap.size < w1.heap.size + 1 := by omega
  have hl5 : w.heap.size < w1.heap.size + 1 + 1 := by omega
  have hl6 : w.heap.size + 1 < w1.heap.size + 1 := by omega
  have hl7 : w.heap.size + 1 < w1.heap.size + 1 + 1 := by omega
  have hgw : g < w1.heap.size := by omega
  rw [if_pos c0] at hh
  obtain rfl := Option.some.inj hh
  clear hh
  cases hd1 : hasDot t.f1
  all_goals
    go_wp2_with (go_at_call 90; go_loud (refine (dot_calls _ _).mono ?_; rintro e w2 ⟨rfl, rfl⟩; rw [hd1]))
  all_goals ((try simp only [Exit.inBlock, Exit.then]); refine bodyPost_ret (by simp [results, Tryd.results88, go_sem, *]; try rfl) rfl ?_)
  all_goals
    have YRo := YR.out
    have YKo := YK.out
    exact ⟨none, 0, rfl, NdS.zero _ _ _ _ _, hl1, by (repeat' (first | (with_reducible assumption) | (with_reducible apply Rd.alloc) | (with_reducible apply Rd.drew) | (with_reducible apply Rd.drewN) | (with_reducible refine Rd.setO ?_ _ _ _ (by (first | (simp; done) | (simp; omega) | omega)) (by (first | (simp; done) | (simp; omega) | omega))))), by (repeat' (first | (with_reducible exact Kept.refl _ _) | (with_reducible assumption) | (with_reducible apply Kept.alloc) | (with_reducible apply Kept.drew) | (with_reducible apply Kept.drewN) | (with_reducible refine Kept.setCell ?_ _ _ _ ?_) | (with_reducible exact Or.inl rfl) | (left; assumption) | (right; simp; done) | (right; omega)))⟩
set_option maxHeartbeats 1000000 in
set_option maxRecDepth 100000 in
theorem prim_txt (g T : Nat) (d : Int) (orP : Int → List Tk → Option Res) (hp : PartC g T (d + 1) (orP (d + 1)) 41) (k : Nat) (hk : k ≤ 1000000) (hd0 : 0 ≤ d) (hd : d ≤ 20) (t : Tk) (r : List Tk) (R : Res) (w : World) (hR : Rd g T w (t :: r) d)
    (h : primP orP k d (t :: r) = some R) (c0 : ¬ t.f0 = 0) (c2 : t.f0 = 2) : Calls Tryd.prog 88 #[.pointer (some ⟨g, 0, none⟩)] w (Post g T d w R) := by
  have hg := hR.lt
  have hT := hR.Tlt (by simp)
  have hg1 : ∀ k, g < w.heap.size + k := fun k => by omega
  have hT1 : ∀ k, T < w.heap.size + k := fun k => by omega
  have hmf := makeFunc_run
  obtain ⟨hr, hF⟩ := primP_cons orP k d t r R h
  have HP := Aside0.mk hp
  have HR := Aside0.mk hR
  have HF := Aside0.mk hF
  clear hp hR h hF
  go_enter Tryd.func88, Tryd.ntmps88
  go_wp2_with (fail)
  refine (take_calls g T _ t r d ((HR.out.alloc _).alloc _) hr).mono ?_
  rintro e w1 ⟨rfl, hR1, hK1⟩
  have hs1 := hK1.size
  simp at hs1
  have Y0 := Aside0.mk (hK1.blk (blk_alloc (heap_alloc_new w (.cells #[.pointer (some ⟨g, 0, none⟩)] 82)) (.cells zeroNd 58)) (by omega))
  have Y1 := Aside0.mk (show w1.heap[w.heap.size + 1]? = some (.cells zeroNd 58 (0, 0)) by
    rw [← World.size_alloc w (.cells #[.pointer (some ⟨g, 0, none⟩)] 82)]
    exact hK1.blk (heap_alloc_new (w.alloc (.cells #[.pointer (some ⟨g, 0, none⟩)] 82)) (.cells zeroNd 58)) (by simp; omega))
  have YR := Aside0.mk hR1
  have YK := Aside0.mk (Kept.trans (((Kept.refl (fun k => k = g) w).alloc _).alloc _) hK1 (fun _ _ q => q))
  have hl1 : (if t.f0 = 4 then t :: r else r) ≠ [] := by
    split
    · simp
    · exact hr (by assumption)
  clear hK1 hR1
  generalize (if t.f0 = 4 then t :: r else r) = l1 at *
  unfold tokV
  have y0 := blk_cell Y0.out 0
  have y1 := fun i => blk_cell Y1.out i
  have f1 := fun i => blk_frozen Y1.out i
  simp only [zeroNd] at y1
  have hh := HF.out
  clear HF
  unfold primF at hh
  have hl2 : w.heap.size + 1 < w1.heap.size := by omega
  have hl3 : w.heap.size < w1.heap.size := by omega
  have hl4 : w.heap.size < w1.heap.size + 1 := by omega
  have hl5 : w.heap.size < w1.heap.size + 1 + 1 := by omega
  have hl6 : w.heap.size + 1 < w1.heap.size + 1 := by omega
  have hl7 : w.heap.size + 1 < w1.heap.size + 1 + 1 := by omega
  have hgw : g < w1.heap.size := by omega
  rw [if_neg c0] at hh
  have c0f := eq_false c0
  rw [if_pos c2] at hh
  obtain rfl := Option.some.inj hh
  clear hh
  go_wp2_with (fail)
  all_goals ((try simp only [Exit.inBlock, Exit.then]); refine bodyPost_ret (by simp [results, Tryd.results88, go_sem, *]; try rfl) rfl ?_)
  all_goals
    have YRo := YR.out
    have YKo := YK.out
    exact ⟨none, 0, rfl, NdS.zero _ _ _ _ _, hl1, by (repeat' (first | (with_reducible assumption) | (with_reducible apply Rd.alloc) | (with_reducible apply Rd.drew) | (with_reducible apply Rd.drewN) | (with_reducible refine Rd.setO ?_ _ _ _ (by (first | (simp; done) | (simp; omega) | omega)) (by (first | (simp; done) | (simp; omega) | omega))))), by (repeat' (first | (with_reducible exact Kept.refl _ _) | (with_reducible assumption) | (with_reducible apply Kept.alloc) | (with_reducible apply Kept.drew) | (with_reducible apply Kept.drewN) | (with_reducible refine Kept.setCell ?_ _ _ _ ?_) | (with_reducible exact Or.inl rfl) | (left; assumption) | (right; simp; done) | (right; omega)))⟩
set_option maxHeartbeats 1000000 in
set_option maxRecDepth 100000 in
theorem prim_br (g T : Nat) (d : Int) (orP : Int → List Tk → Option Res) (hp : PartC g T (d + 1) (orP (d + 1)) 41) (k : Nat) (hk : k ≤ 1000000) (hd0 : 0 ≤ d) (hd : d ≤ 20) (t : Tk) (r : List Tk) (R : Res) (w : World) (hR : Rd g T w (t :: r) d)
    (h : primP orP k d (t :: r) = some R) (c0 : ¬ t.f0 = 0) (c2 : ¬ t.f0 = 2) (c3 : t.f0 = 3 ∧ t.f1 = sOpen) : Calls Tryd.prog 88 #[.pointer (some ⟨g, 0, none⟩)] w (Post g T d w R) := by
  have hg := hR.lt
  have hT := hR.Tlt (by simp)
  have hg1 : ∀ k, g < w.heap.size + k := fun k => by omega
  have hT1 : ∀ k, T < w.heap.size + k := fun k => by omega
  have hmf := makeFunc_run
  obtain ⟨hr, hF⟩ := primP_cons orP k d t r R h
  have HP := Aside0.mk hp
  have HR := Aside0.mk hR
  have HF := Aside0.mk hF
  clear hp hR h hF
  go_enter Tryd.func88, Tryd.ntmps88
  go_wp2_with (fail)
  refine (take_calls g T _ t r d ((HR.out.alloc _).alloc _) hr).mono ?_
  rintro e w1 ⟨rfl, hR1, hK1⟩
  have hs1 := hK1.size
  simp at hs1
  have Y0 := Aside0.mk (hK1.blk (blk_alloc (heap_alloc_new w (.cells #[.pointer (some ⟨g, 0, none⟩)] 82)) (.cells zeroNd 58)) (by omega))
  have Y1 := Aside0.mk (show w1.heap[w.heap.size + 1]? = some (.cells zeroNd 58 (0, 0)) by
    rw [← World.size_alloc w (.cells #[.pointer (some ⟨g, 0, none⟩)] 82)]
    exact hK1.blk (heap_alloc_new (w.alloc (.cells #[.pointer (some ⟨g, 0, none⟩)] 82)) (.cells zeroNd 58)) (by simp; omega))
  have YR := Aside0.mk hR1
  have YK := Aside0.mk (Kept.trans (((Kept.refl (fun k => k = g) w).alloc _).alloc _) hK1 (fun _ _ q => q))
  have hl1 : (if t.f0 = 4 then t :: r else r) ≠ [] := by
    split
    · simp
    · exact hr (by assumption)
  clear hK1 hR1
  generalize (if t.f0 = 4 then t :: r else r) = l1 at *
  unfold tokV
  have y0 := blk_cell Y0.out 0
  have y1 := fun i => blk_cell Y1.out i
  have f1 := fun i => blk_frozen Y1.out i
  simp only [zeroNd] at y1
  have hh := HF.out
  clear HF
  unfold primF at hh
  have hl2 : w.heap.size + 1 < w1.heap.size := by omega
  have hl3 : w.heap.size < w1.heap.size := by omega
  have hl4 : w.heap.size < w1.heap.size + 1 := by omega
  have hl5 : w.heap.size < w1.heap.size + 1 + 1 := by omega
  have hl6 : w.heap.size + 1 < w1.heap.size + 1 := by omega
  have hl7 : w.heap.size + 1 < w1.heap.size + 1 + 1 := by omega
  have hgw : g < w1.heap.size := by omega
  rw [if_neg c0] at hh
  have c0f := eq_false c0
  rw [if_neg c2] at hh
  have c2f := eq_false c2
  rw [if_pos c3] at hh
  obtain ⟨c31, c32⟩ := c3
  have C32 := Aside0.mk c32
  unfold sOpen at c32
  have hf79 : ∀ args w, (callFunc 91 args).run Tryd.prog w = .ok (.enter 91 args) w := enters_of Tryd.func91 (by kernel_rfl) rfl
  have HF79 := Aside0.mk hf79
  clear hf79
  go_wp2_with (fail)
  have hRa := ((YR.out.alloc (.cells (tkCs t) 87)).alloc (.cells #[.int .i64 3, .string sOpen, .int .i64 t.f2] 87)).alloc (.cells zeroNd 58)
  have X0 := blk_alloc (blk_alloc (blk_alloc Y0.out (.cells (tkCs t) 87)) (.cells #[.int .i64 3, .string sOpen, .int .i64 t.f2] 87)) (.cells zeroNd 58)
  have X1 := blk_alloc (blk_alloc (blk_alloc Y1.out (.cells (tkCs t) 87)) (.cells #[.int .i64 3, .string sOpen, .int .i64 t.f2] 87)) (.cells zeroNd 58)
  have XB : (((w1.alloc (.cells (tkCs t) 87)).alloc (.cells #[.int .i64 3, .string sOpen, .int .i64 t.f2] 87)).alloc (.cells zeroNd 58)).heap[w1.heap.size + 1 + 1]? = some (.cells zeroNd 58 (0, 0)) := by
    rw [← World.size_alloc w1 (.cells (tkCs t) 87), ← World.size_alloc (w1.alloc (.cells (tkCs t) 87)) (.cells #[.int .i64 3, .string sOpen, .int .i64 t.f2] 87)]
    exact heap_alloc_new _ _
  have hKa : Kept (fun k => k = g) w (((w1.alloc (.cells (tkCs t) 87)).alloc (.cells #[.int .i64 3, .string sOpen, .int .i64 t.f2] 87)).alloc (.cells zeroNd 58)) := ((YK.out.alloc _).alloc _).alloc _
  have hsz : (((w1.alloc (.cells (tkCs t) 87)).alloc (.cells #[.int .i64 3, .string sOpen, .int .i64 t.f2] 87)).alloc (.cells zeroNd 58)).heap.size = w1.heap.size + 1 + 1 + 1 := by simp
  have etk : (((w1.alloc (.cells #[.int .i64 3, .string ⟨#[40]⟩, .int .i64 t.f2] 87)).alloc (.cells #[.int .i64 3, .string ⟨#[40]⟩, .int .i64 t.f2] 87)).alloc (.cells #[.int .i64 0, .string ⟨#[]⟩, .slice none 0 0, .int .i64 0] 58)) = (((w1.alloc (.cells (tkCs t) 87)).alloc (.cells #[.int .i64 3, .string sOpen, .int .i64 t.f2] 87)).alloc (.cells zeroNd 58)) := by
    rw [show tkCs t = #[.int .i64 3, .string sOpen, .int .i64 t.f2] from by rw [← c31, ← C32.out]]
    rfl
  rw [etk]
  obtain ⟨off', c', h0, h1, z0, z1, hc', hT', hC⟩ := hRa.cell
  clear y0 y1 f1 Y0 Y1 YR YK hC etk
  generalize ((w1.alloc (.cells (tkCs t) 87)).alloc (.cells #[.int .i64 3, .string sOpen, .int .i64 t.f2] 87)).alloc (.cells zeroNd 58) = w5 at *
  have hlt := hRa.lt
  by_cases hdd : d + 1 > 20
  · rw [if_pos hdd] at hh
    obtain rfl := Option.some.inj hh
    refine (within_deep 91 g d t.f2 _ _ h1 z1 hd0 hd hdd).mono ?_
    rintro e w2 ⟨he, hK2⟩
    unfold Thrown at he
    subst he
    exact ⟨rfl, rfl, Kept.trans hKa hK2 (fun _ _ h => h)⟩
  · rw [if_neg hdd] at hh
    have hR6 := hRa.set1 (d + 1)
    have X0' := blk_setO (v := .int .i64 (d + 1)) (i := 1) (b := g) X0 (by omega)
    have X1' := blk_setO (v := .int .i64 (d + 1)) (i := 1) (b := g) X1 (by omega)
    have XB' := blk_setO (v := .int .i64 (d + 1)) (i := 1) (b := g) XB (by omega)
    have hK6 : Kept (fun k => k = g) w (w5.setCell ⟨g, 1, none⟩ (.int .i64 (d + 1))) := by (repeat' (first | (with_reducible exact Kept.refl _ _) | (with_reducible assumption) | (with_reducible apply Kept.alloc) | (with_reducible apply Kept.drew) | (with_reducible apply Kept.drewN) | (with_reducible refine Kept.setCell ?_ _ _ _ ?_) | (with_reducible exact Or.inl rfl) | (left; assumption) | (right; simp; done) | (right; omega)))
    have hs6 : (w5.setCell ⟨g, 1, none⟩ (.int .i64 (d + 1))).heap.size = w1.heap.size + 1 + 1 + 1 := by rw [World.size_setCell]; exact hsz
    have hn1 := prim1_calls g T (d + 1) (orP (d + 1)) HP.out w.heap.size (w1.heap.size + 1 + 1) l1 R (w5.setCell ⟨g, 1, none⟩ (.int .i64 (d + 1))) zeroNd hl1 hR6 (by rw [blk_cell X0']; rfl) X0' XB' rfl (by omega) (by omega) (by omega) (by omega) hh
    cases R with
    | bad why pos =>
      refine (within_calls 91 HF79.out g d t.f2 #[.pointer (some ⟨w.heap.size, 0, none⟩), .pointer (some ⟨w1.heap.size + 1 + 1, 0, none⟩)] w5 (fun _ => False) (fun e w3 => Thrown e why pos ∧ Kept (fun k => k = g ∨ k = w1.heap.size + 1 + 1) (w5.setCell ⟨g, 1, none⟩ (.int .i64 (d + 1))) w3) h1 z1 hd0 (by omega) ?_).mono ?_
      · refine hn1.mono ?_
        rintro e w2 ⟨he, hK2⟩
        exact Or.inr ⟨_, he, he, hK2⟩
      · rintro e w3 (⟨rfl, w2, hq, _⟩ | ⟨c2, rfl, hq⟩)
        · exact hq.elim
        · exact ⟨rfl, hq.1, Kept.trans hK6 hq.2 (fun j hj q => by rcases q with q | q; exact q; omega)⟩
    | ok n l' =>
      refine (within_calls 91 HF79.out g d t.f2 #[.pointer (some ⟨w.heap.size, 0, none⟩), .pointer (some ⟨w1.heap.size + 1 + 1, 0, none⟩)] w5
        (fun w2 => ∃ A c, w2.heap[w1.heap.size + 1 + 1]? = some (.cells (ndCs n A c) 58 (0, 0)) ∧ NdS (fun k => k < (w5.setCell ⟨g, 1, none⟩ (.int .i64 (d + 1))).heap.size) w2 n A c ∧ l' ≠ [] ∧ Rd g T w2 l' (d + 1) ∧ Kept (fun k => k = g ∨ k = w1.heap.size + 1 + 1) (w5.setCell ⟨g, 1, none⟩ (.int .i64 (d + 1))) w2)
        (fun e w3 => False) h1 z1 hd0 (by omega) ?_).mono ?_
      · refine hn1.mono ?_
        rintro e w2 ⟨rfl, A, c, hb, hN, hl', hRc, hKc⟩
        obtain ⟨_, _, _, e1, _, e2, _⟩ := hRc.cell
        exact Or.inl ⟨rfl, ⟨A, c, hb, hN, hl', hRc, hKc⟩, e1, e2⟩
      · rintro e w3 (⟨rfl, w2, ⟨A, c, hb, hN, hl', hRc, hKc⟩, rfl⟩ | ⟨c2, rfl, hq⟩)
        · have hsc := hKc.size
          rw [hs6] at hsc hN
          have V1 := Aside0.mk (blk_setO (v := .int .i64 d) (i := 1) (b := g) (hKc.blk X1' (by omega)) (by omega))
          have VB := Aside0.mk (blk_setO (v := .int .i64 d) (i := 1) (b := g) hb (by omega))
          have VR := Aside0.mk (hRc.set1 d)
          have hKw2 : Kept (fun k => k = g) w w2 := Kept.trans hK6 hKc (fun j hj q => by rcases q with q | q; exact q; omega)
          have VK := Aside0.mk (show Kept (fun k => k = g) w (w2.setCell ⟨g, 1, none⟩ (.int .i64 d)) from by (repeat' (first | (with_reducible exact Kept.refl _ _) | (with_reducible assumption) | (with_reducible apply Kept.alloc) | (with_reducible apply Kept.drew) | (with_reducible apply Kept.drewN) | (with_reducible refine Kept.setCell ?_ _ _ _ ?_) | (with_reducible exact Or.inl rfl) | (left; assumption) | (right; simp; done) | (right; omega))))
          have VN := Aside0.mk (hN.kept (S' := fun k => k < w1.heap.size + 1 + 1 + 1) (T := fun k => k = g) (w' := w2.setCell ⟨g, 1, none⟩ (.int .i64 d)) (by (repeat' (first | (with_reducible exact Kept.refl _ _) | (with_reducible assumption) | (with_reducible apply Kept.alloc) | (with_reducible apply Kept.drew) | (with_reducible apply Kept.drewN) | (with_reducible refine Kept.setCell ?_ _ _ _ ?_) | (with_reducible exact Or.inl rfl) | (left; assumption) | (right; simp; done) | (right; omega)))) (fun j _ q => by have q' : j = g := q; show j < _; omega) (fun j _ q => q))
          have hsf : w1.heap.size + 1 + 1 < (w2.setCell ⟨g, 1, none⟩ (.int .i64 d)).heap.size := by rw [World.size_setCell]; omega
          clear X0 X1 XB X0' X1' XB' hK6 hs6 hn1 hR6 hRa hKa h0 h1 z0 z1 hb hN hRc hKc hKw2 hh
          generalize w2.setCell ⟨g, 1, none⟩ (.int .i64 d) = wf at *
          have cB := fun i => blk_cell VB.out i
          have c2' := fun i => blk_cell V1.out i
          have f2 := fun i => blk_frozen V1.out i
          simp only [ndCs, zeroNd] at cB c2'
          go_wp2_with (fail)
          ((try simp only [Exit.inBlock, Exit.then]); refine bodyPost_ret (by simp [results, Tryd.results88, go_sem, *]; try rfl) rfl ?_)
          exact post_set (b := w.heap.size + 1) VN.out hl' VR.out VK.out hg hT (by omega) (by show w.heap.size + 1 < _; omega) (fun j q => by show j < _; omega)
        · exact hq.elim
set_option maxHeartbeats 1000000 in
set_option maxRecDepth 100000 in
theorem prim_bool (g T : Nat) (d : Int) (orP : Int → List Tk → Option Res) (hp : PartC g T (d + 1) (orP (d + 1)) 41) (k : Nat) (hk : k ≤ 1000000) (hd0 : 0 ≤ d) (hd : d ≤ 20) (t : Tk) (r : List Tk) (R : Res) (w : World) (hR : Rd g T w (t :: r) d)
    (h : primP orP k d (t :: r) = some R) (c0 : ¬ t.f0 = 0) (c2 : ¬ t.f0 = 2) (c3 : ¬ (t.f0 = 3 ∧ t.f1 = sOpen)) (c4 : t.f0 = 1 ∧ (t.f1 = sTrue ∨ t.f1 = sFalse)) : Calls Tryd.prog 88 #[.pointer (some ⟨g, 0, none⟩)] w (Post g T d w R) := by
  have hg := hR.lt
  have hT := hR.Tlt (by simp)
  have hg1 : ∀ k, g < w.heap.size + k := fun k => by omega
  have hT1 : ∀ k, T < w.heap.size + k := fun k => by omega
  have hmf := makeFunc_run
  obtain ⟨hr, hF⟩ := primP_cons orP k d t r R h
  have HP := Aside0.mk hp
  have HR := Aside0.mk hR
  have HF := Aside0.mk hF
  clear hp hR h hF
  go_enter Tryd.func88, Tryd.ntmps88
  go_wp2_with (fail)
  refine (take_calls g T _ t r d ((HR.out.alloc _).alloc _) hr).mono ?_
  rintro e w1 ⟨rfl, hR1, hK1⟩
  have hs1 := hK1.size
  simp at hs1
  have Y0 := Aside0.mk (hK1.blk (blk_alloc (heap_alloc_new w (.cells #[.pointer (some ⟨g, 0, none⟩)] 82)) (.cells zeroNd 58)) (by omega))
  have Y1 := Aside0.mk (show w1.heap[w.heap.size + 1]? = some (.cells zeroNd 58 (0, 0)) by
    rw [← World.size_alloc w (.cells #[.pointer (some ⟨g, 0, none⟩)] 82)]
    exact hK1.blk (heap_alloc_new (w.alloc (.cells #[.pointer (some ⟨g, 0, none⟩)] 82)) (.cells zeroNd 58)) (by simp; omega))
  have YR := Aside0.mk hR1
  have YK := Aside0.mk (Kept.trans (((Kept.refl (fun k => k = g) w).alloc _).alloc _) hK1 (fun _ _ q => q))
  have hl1 : (if t.f0 = 4 then t :: r else r) ≠ [] := by
    split
    · simp
    · exact hr (by assumption)
  clear hK1 hR1
  generalize (if t.f0 = 4 then t :: r else r) = l1 at *
  unfold tokV
  have y0 := blk_cell Y0.out 0
  have y1 := fun i => blk_cell Y1.out i
  have f1 := fun i => blk_frozen Y1.out i
  simp only [zeroNd] at y1
  have hh := HF.out
  clear HF
  unfold primF at hh
  have hl2 : w.heap.size + 1 < w1.heap.size := by omega
  have hl3 : w.heap.size < w1.heap.size := by omega
  have hl4 : w.heap.size < w1.heap.size + 1 := by omega
  have hl5 : w.heap.size < w1.heap.size + 1 + 1 := by omega
  have hl6 : w.heap.size + 1 < w1.heap.size + 1 := by omega
  have hl7 : w.heap.size + 1 < w1.heap.size + 1 + 1 := by omega
  have hgw : g < w1.heap.size := by omega
  rw [if_neg c0] at hh
  have c0f := eq_false c0
  rw [if_neg c2] at hh
  have c2f := eq_false c2
  rw [if_neg c3] at hh
  rw [if_pos c4] at hh
  obtain rfl := Option.some.inj hh
  clear hh
  obtain ⟨c41, c42⟩ := c4
  unfold sTrue sFalse at c42
  rcases c42 with c42 | c42
  all_goals go_wp2_with (fail)
  all_goals ((try simp only [Exit.inBlock, Exit.then]); refine bodyPost_ret (by simp [results, Tryd.results88, go_sem, *]; try rfl) rfl ?_)
  all_goals
    have YRo := YR.out
    have YKo := YK.out
    exact ⟨none, 0, by rw [c42]; rfl, NdS.zero _ _ _ _ _, hl1, by (repeat' (first | (with_reducible assumption) | (with_reducible apply Rd.alloc) | (with_reducible apply Rd.drew) | (with_reducible apply Rd.drewN) | (with_reducible refine Rd.setO ?_ _ _ _ (by (first | (simp; done) | (simp; omega) | omega)) (by (first | (simp; done) | (simp; omega) | omega))))), by (repeat' (first | (with_reducible exact Kept.refl _ _) | (with_reducible assumption) | (with_reducible apply Kept.alloc) | (with_reducible apply Kept.drew) | (with_reducible apply Kept.drewN) | (with_reducible refine Kept.setCell ?_ _ _ _ ?_) | (with_reducible exact Or.inl rfl) | (left; assumption) | (right; simp; done) | (right; omega)))⟩
set_option maxHeartbeats 1000000 in
set_option maxRecDepth 100000 in
theorem prim_name (g T : Nat) (d : Int) (orP : Int → List Tk → Option Res) (hp : PartC g T (d + 1) (orP (d + 1)) 41) (k : Nat) (hk : k ≤ 1000000) (hd0 : 0 ≤ d) (hd : d ≤ 20) (t : Tk) (r : List Tk) (R : Res) (w : World) (hR : Rd g T w (t :: r) d)
    (h : primP orP k d (t :: r) = some R) (c0 : ¬ t.f0 = 0) (c2 : ¬ t.f0 = 2) (c3 : ¬ (t.f0 = 3 ∧ t.f1 = sOpen)) (c4 : ¬ (t.f0 = 1 ∧ (t.f1 = sTrue ∨ t.f1 = sFalse))) (c5 : t.f0 = 1 ∧ hasB kept8 t.f1 = false) : Calls Tryd.prog 88 #[.pointer (some ⟨g, 0, none⟩)] w (Post g T d w R) := by
  have hg := hR.lt
  have hT := hR.Tlt (by simp)
  have hg1 : ∀ k, g < w.heap.size + k := fun k => by omega
  have hT1 : ∀ k, T < w.heap.size + k := fun k => by omega
  have hmf := makeFunc_run
  obtain ⟨hr, hF⟩ := primP_cons orP k d t r R h
  have HP := Aside0.mk hp
  have HR := Aside0.mk hR
  have HF := Aside0.mk hF
  clear hp hR h hF
  go_enter Tryd.func88, Tryd.ntmps88
  go_wp2_with (fail)
  refine (take_calls g T _ t r d ((HR.out.alloc _).alloc _) hr).mono ?_
  rintro e w1 ⟨rfl, hR1, hK1⟩
  have hs1 := hK1.size
  simp at hs1
  have Y0 := Aside0.mk (hK1.blk (blk_alloc (heap_alloc_new w (.cells #[.pointer (some ⟨g, 0, none⟩)] 82)) (.cells zeroNd 58)) (by omega))
  have Y1 := Aside0.mk (show w1.heap[w.heap.size + 1]? = some (.cells zeroNd 58 (0, 0)) by
    rw [← World.size_alloc w (.cells #[.pointer (some ⟨g, 0, none⟩)] 82)]
    exact hK1.blk (heap_alloc_new (w.alloc (.cells #[.pointer (some ⟨g, 0, none⟩)] 82)) (.cells zeroNd 58)) (by simp; omega))
  have YR := Aside0.mk hR1
  have YK := Aside0.mk (Kept.trans (((Kept.refl (fun k => k = g) w).alloc _).alloc _) hK1 (fun _ _ q => q))
  have hl1 : (if t.f0 = 4 then t :: r else r) ≠ [] := by
    split
    · simp
    · exact hr (by assumption)
  clear hK1 hR1
  generalize (if t.f0 = 4 then t :: r else r) = l1 at *
  unfold tokV
  have y0 := blk_cell Y0.out 0
  have y1 := fun i => blk_cell Y1.out i
  have f1 := fun i => blk_frozen Y1.out i
  simp only [zeroNd] at y1
  have hh := HF.out
  clear HF
  unfold primF at hh
  have hl2 : w.heap.size + 1 < w1.heap.size := by omega
  have hl3 : w.heap.size < w1.heap.size := by omega
  have hl4 : w.heap.size < w1.heap.size + 1 := by omega
  have hl5 : w.heap.size < w1.heap.size + 1 + 1 := by omega
  have hl6 : w.heap.size + 1 < w1.heap.size + 1 := by omega
  have hl7 : w.heap.size + 1 < w1.heap.size + 1 + 1 := by omega
  have hgw : g < w1.heap.size := by omega
  rw [if_neg c0] at hh
  have c0f := eq_false c0
  rw [if_neg c2] at hh
  have c2f := eq_false c2
  rw [if_neg c3] at hh
  rw [if_neg c4] at hh
  rw [if_pos c5] at hh
  obtain ⟨c51, c52⟩ := c5
  have c61 : ¬ t.f1 = sTrue := fun q => c4 ⟨c51, Or.inl q⟩
  have c62 : ¬ t.f1 = sFalse := fun q => c4 ⟨c51, Or.inr q⟩
  unfold sTrue at c61
  unfold sFalse at c62
  obtain ⟨c61a, c61b⟩ := ne_lit c61
  obtain ⟨c62a, c62b⟩ := ne_lit c62
  go_wp2_with (fail)
  refine (reserved_calls _ _).mono ?_
  rintro e w2 ⟨rfl, hb⟩
  rw [c52]
  have hs2 := hb.size
  simp at hs2
  have Z0 := Aside0.mk (blk_below (blk_alloc (blk_alloc Y0.out _) _) hb)
  have Z1 := Aside0.mk (blk_below (blk_alloc (blk_alloc Y1.out _) _) hb)
  have Z2 := Aside0.mk (blk_below (blk_alloc (heap_alloc_new w1 _) _) hb)
  have ZR := Aside0.mk (((YR.out.alloc _).alloc _).below hb)
  have ZK := Aside0.mk (((YK.out.alloc _).alloc _).below hb)
  clear hb Y0 Y1 YR YK y0 y1 f1
  have y0 := blk_cell Z0.out 0
  have y1 := fun i => blk_cell Z1.out i
  have y2 := fun i => blk_cell Z2.out i
  have f1 := fun i => blk_frozen Z1.out i
  simp only [zeroNd] at y1
  have HH := Aside0.mk hh
  clear hh
  go_wp2_with (fail)
  have hn := named_calls g T d orP HP.out t l1 R w2 k hk hd0 hd hl1 ZR.out HH.out
  rw [show tokV t = .agg #[.int .i64 1, .string t.f1, .int .i64 t.f2] from by unfold tokV; rw [c51]] at hn
  cases R with
  | bad why pos =>
    refine hn.mono ?_
    intro e w3 hq
    obtain ⟨rfl, hK3⟩ := Post.bad_ hq
    exact ⟨rfl, rfl, Kept.trans ZK.out hK3 (fun _ _ q => q)⟩
  | ok n l' =>
    refine hn.mono ?_
    intro e w3 hq
    obtain ⟨A, c, rfl, hN, hl', hR3, hK3⟩ := Post.ok_ hq
    clear hq hn
    have hs3 := hK3.size
    have X1 := Aside0.mk (hK3.blk Z1.out (by omega))
    have XR := Aside0.mk hR3
    have XN := Aside0.mk hN
    have XK := Aside0.mk (Kept.trans ZK.out hK3 (fun _ _ q => q))
    clear y0 y1 y2 f1 hK3 hR3 hN
    have y1 := fun i => blk_cell X1.out i
    have f1 := fun i => blk_frozen X1.out i
    simp only [zeroNd] at y1
    unfold ndV
    go_wp2_with (fail)
    ((try simp only [Exit.inBlock, Exit.then]); refine bodyPost_ret (by simp [results, Tryd.results88, go_sem, *]; try rfl) rfl ?_)
    exact post_set (b := w.heap.size + 1) XN.out hl' XR.out XK.out hg hT (by omega) (by show w.heap.size + 1 < _; omega) (fun j q => by show j < _; omega)
set_option maxHeartbeats 1000000 in
set_option maxRecDepth 100000 in
theorem prim_bad (g T : Nat) (d : Int) (orP : Int → List Tk → Option Res) (hp : PartC g T (d + 1) (orP (d + 1)) 41) (k : Nat) (hk : k ≤ 1000000) (hd0 : 0 ≤ d) (hd : d ≤ 20) (t : Tk) (r : List Tk) (R : Res) (w : World) (hR : Rd g T w (t :: r) d)
    (h : primP orP k d (t :: r) = some R) (c0 : ¬ t.f0 = 0) (c2 : ¬ t.f0 = 2) (c3 : ¬ (t.f0 = 3 ∧ t.f1 = sOpen)) (c4 : ¬ (t.f0 = 1 ∧ (t.f1 = sTrue ∨ t.f1 = sFalse))) (c5 : ¬ (t.f0 = 1 ∧ hasB kept8 t.f1 = false)) : Calls Tryd.prog 88 #[.pointer (some ⟨g, 0, none⟩)] w (Post g T d w R) := by
  have hg := hR.lt
  have hT := hR.Tlt (by simp)
  have hg1 : ∀ k, g < w.heap.size + k := fun k => by omega
  have hT1 : ∀ k, T < w.heap.size + k := fun k => by omega
  have hmf := makeFunc_run
  obtain ⟨hr, hF⟩ := primP_cons orP k d t r R h
  have HP := Aside0.mk hp
  have HR := Aside0.mk hR
  have HF := Aside0.mk hF
  clear hp hR h hF
  go_enter Tryd.func88, Tryd.ntmps88
  go_wp2_with (fail)
  refine (take_calls g T _ t r d ((HR.out.alloc _).alloc _) hr).mono ?_
  rintro e w1 ⟨rfl, hR1, hK1⟩
  have hs1 := hK1.size
  simp at hs1
  have Y0 := Aside0.mk (hK1.blk (blk_alloc (heap_alloc_new w (.cells #[.pointer (some ⟨g, 0, none⟩)] 82)) (.cells zeroNd 58)) (by omega))
  have Y1 := Aside0.mk (show w1.heap[w.heap.size + 1]? = some (.cells zeroNd 58 (0, 0)) by
    rw [← World.size_alloc w (.cells #[.pointer (some ⟨g, 0, none⟩)] 82)]
    exact hK1.blk (heap_alloc_new (w.alloc (.cells #[.pointer (some ⟨g, 0, none⟩)] 82)) (.cells zeroNd 58)) (by simp; omega))
  have YR := Aside0.mk hR1
  have YK := Aside0.mk (Kept.trans (((Kept.refl (fun k => k = g) w).alloc _).alloc _) hK1 (fun _ _ q => q))
  have hl1 : (if t.f0 = 4 then t :: r else r) ≠ [] := by
    split
    · simp
    · exact hr (by assumption)
  clear hK1 hR1
  generalize (if t.f0 = 4 then t :: r else r) = l1 at *
  unfold tokV
  have y0 := blk_cell Y0.out 0
  have y1 := fun i => blk_cell Y1.out i
  have f1 := fun i => blk_frozen Y1.out i
  simp only [zeroNd] at y1
  have hh := HF.out
  clear HF
  unfold primF at hh
  have hl2 : w.heap.size + 1 < w1.heap.size := by omega
  have hl3 : w.heap.size < w1.heap.size := by omega
  have hl4 : w.heap.size < w1.heap.size + 1 := by omega
  have hl5 : w.heap.size < w1.heap.size + 1 + 1 := by omega
  have hl6 : w.heap.size + 1 < w1.heap.size + 1 := by omega
  have hl7 : w.heap.size + 1 < w1.heap.size + 1 + 1 := by omega
  have hgw : g < w1.heap.size := by omega
  rw [if_neg c0] at hh
  have c0f := eq_false c0
  rw [if_neg c2] at hh
  have c2f := eq_false c2
  rw [if_neg c3] at hh
  rw [if_neg c4] at hh
  rw [if_neg c5] at hh
  obtain rfl := Option.some.inj hh
  clear hh
  have hfl : ∀ W : World, Kept (fun k => k = g) w W → Calls Tryd.prog 42 #[.int .i64 30, .int .i64 t.f2] W fun e w' => e = .panicked [{ v := stopV 30 t.f2, recovered := false }] ∧ Kept (fun k => k = g) w w' := fun W q => (fail_calls 30 t.f2 W).mono fun e w' hq => ⟨hq.1, q.below hq.2⟩
  have HFL := Aside0.mk hfl
  clear hfl
  by_cases c31 : t.f0 = 3
  · have c61 : ¬ t.f1 = sOpen := fun q => c3 ⟨c31, q⟩
    unfold sOpen at c61
    obtain ⟨c61a, c61b⟩ := ne_lit c61
    go_wp2_with (fail)
    refine (HFL.out _ ((YK.out.alloc _).alloc _)).mono ?_
    rintro e w2 ⟨rfl, hb⟩
    exact ⟨rfl, rfl, hb⟩
  by_cases c51 : t.f0 = 1
  · have c52 : hasB kept8 t.f1 = true := by
      cases q : hasB kept8 t.f1 with
      | true => rfl
      | false => exact absurd ⟨c51, q⟩ c5
    have c61 : ¬ t.f1 = sTrue := fun q => c4 ⟨c51, Or.inl q⟩
    have c62 : ¬ t.f1 = sFalse := fun q => c4 ⟨c51, Or.inr q⟩
    unfold sTrue at c61
    unfold sFalse at c62
    obtain ⟨c61a, c61b⟩ := ne_lit c61
    obtain ⟨c62a, c62b⟩ := ne_lit c62
    go_wp2_with (fail)
    refine (reserved_calls _ _).mono ?_
    rintro e w2 ⟨rfl, hb⟩
    rw [c52]
    have hs2 := hb.size
    simp at hs2
    have y2 := fun i => blk_cell (blk_below (blk_alloc (heap_alloc_new w1 (.cells #[.int .i64 1, .string t.f1, .int .i64 t.f2] 87)) (.cells #[.int .i64 3, .string ⟨#[40]⟩, .int .i64 t.f2] 87)) hb) i
    have ZK := Aside0.mk (((YK.out.alloc _).alloc _).below hb)
    clear hb
    go_wp2_with (fail)
    refine (HFL.out _ ZK.out).mono ?_
    rintro e w3 ⟨rfl, hb⟩
    exact ⟨rfl, rfl, hb⟩
  · have c31f := eq_false c31
    have c51f := eq_false c51
    go_wp2_with (fail)
    refine (HFL.out _ ((YK.out.alloc _).alloc _)).mono ?_
    rintro e w2 ⟨rfl, hb⟩
    exact ⟨rfl, rfl, hb⟩
theorem prim_calls (g T : Nat) (d : Int) (orP : Int → List Tk → Option Res) (hp : PartC g T (d + 1) (orP (d + 1)) 41) (k : Nat) (hk : k ≤ 1000000) (hd0 : 0 ≤ d) (hd : d ≤ 20) (l : List Tk) (R : Res) (w : World) (hl : l ≠ []) (hR : Rd g T w l d)
    (h : primP orP k d l = some R) : Calls Tryd.prog 88 #[.pointer (some ⟨g, 0, none⟩)] w (Post g T d w R) := by
  cases l with
  | nil => exact absurd rfl hl
  | cons t r =>
  by_cases c0 : t.f0 = 0
  · exact prim_num g T d orP hp k hk hd0 hd t r R w hR h c0
  by_cases c2 : t.f0 = 2
  · exact prim_txt g T d orP hp k hk hd0 hd t r R w hR h c0 c2
  by_cases c3 : t.f0 = 3 ∧ t.f1 = sOpen
  · exact prim_br g T d orP hp k hk hd0 hd t r R w hR h c0 c2 c3
  by_cases c4 : t.f0 = 1 ∧ (t.f1 = sTrue ∨ t.f1 = sFalse)
  · exact prim_bool g T d orP hp k hk hd0 hd t r R w hR h c0 c2 c3 c4
  by_cases c5 : t.f0 = 1 ∧ hasB kept8 t.f1 = false
  · exact prim_name g T d orP hp k hk hd0 hd t r R w hR h c0 c2 c3 c4 c5
  · exact prim_bad g T d orP hp k hk hd0 hd t r R w hR h c0 c2 c3 c4 c5
end Go.Proofs.YtfgogfdbjbnlbaaDoor.PExpr
end
section
namespace Go.Proofs.YtfgogfdbjbnlbaaDoor.PExpr
open Go.RowKit Go.Proofs.YtfgogfdbjbnlbaaDoorW.PrintWords Go.Proofs.YtfgogfdbjbnlbaaDoorW.PrintLast Go.Proofs.YtfgogfdbjbnlbaaDoorW.PrintMore
set_option linter.unusedVariables false
set_option linter.unusedSimpArgs false
def fnOf : Nat → FuncId
  | 0 => 41
  | 1 => 59
  | 2 => 71
  | 3 => 76
  | 4 => 80
  | 5 => 82
  | 6 => 84
  | 7 => 85
  | 8 => 86
  | _ => 88
theorem prefix_cut (again other : Int → List Tk → Option Res) (kind : Int) (s : ByteArray) (l : List Tk) : prefixP again other kind s 20 l = prefixP (fun _ _ => none) other kind s 20 l := by
  cases l with
  | nil => rfl
  | cons t r =>
    simp only [prefixP]
    split
    · split
      · rfl
      · rw [if_pos (by omega), if_pos (by omega)]
    · rfl
theorem named_cut (orP : Int → List Tk → Option Res) (k : Nat) (t : Tk) (l : List Tk) : namedP orP k 20 t l = namedP (fun _ _ => none) k 20 t l := by
  cases l with
  | nil => rfl
  | cons u r =>
    simp only [namedP]
    split
    · rfl
    · simp only [wantP]
      split
      · split
        · rfl
        · rw [if_pos (by omega), if_pos (by omega)]
      · rfl
theorem prim_cut (orP : Int → List Tk → Option Res) (k : Nat) (l : List Tk) : primP orP k 20 l = primP (fun _ _ => none) k 20 l := by
  cases l with
  | nil => rfl
  | cons t r =>
    have e : ((20 : Int) + 1 > 20) = True := eq_true (by omega)
    simp only [primP, takeP, e, if_true, named_cut orP k]
theorem none_part (g T : Nat) (d : Int) (F : FuncId) : PartC g T d ((fun _ _ => none : Int → List Tk → Option Res) d) F := fun w l r hl hR h => by cases h
theorem parse_calls (g T : Nat) : ∀ k, k ≤ 1000000 → ∀ lev d, 0 ≤ d → d ≤ 20 → PartC g T d (parse k lev d) (fnOf lev) := by
  intro k
  induction k with
  | zero =>
    intro _ lev d _ _ w l r hl hR h
    rw [parse] at h
    cases h
  | succ k ih =>
    intro hk lev d h0 h1
    have IH := ih (by omega)
    by_cases hd : d = 20
    · subst hd
      match lev with
      | 0 => exact fun w l R hl hR h => or_calls g T 20 (parse k 1 20) (IH 1 20 h0 h1) k l R w hl hR (by rw [parse] at h; exact h)
      | 1 => exact fun w l R hl hR h => and_calls g T 20 (parse k 2 20) (IH 2 20 h0 h1) k l R w hl hR (by rw [parse] at h; exact h)
      | 2 => exact fun w l R hl hR h => not_calls g T 20 (fun _ _ => none) (parse k 3) (none_part g T _ _) (IH 3 20 h0 h1) l R w h0 h1 hl hR (by rw [parse, prefix_cut] at h; exact h)
      | 3 => exact fun w l R hl hR h => cmp_calls g T 20 (parse k 4 20) (IH 4 20 h0 h1) l R w hl hR (by rw [parse] at h; exact h)
      | 4 => exact fun w l R hl hR h => sum_calls g T 20 (parse k 5 20) (IH 5 20 h0 h1) k l R w hl hR (by rw [parse] at h; exact h)
      | 5 => exact fun w l R hl hR h => term_calls g T 20 (parse k 6 20) (IH 6 20 h0 h1) k l R w hl hR (by rw [parse] at h; exact h)
      | 6 => exact fun w l R hl hR h => unary_calls g T 20 (fun _ _ => none) (parse k 7) (none_part g T _ _) (IH 7 20 h0 h1) l R w h0 h1 hl hR (by rw [parse, prefix_cut] at h; exact h)
      | 7 => exact fun w l R hl hR h => zone_calls g T 20 (parse k 8 20) (IH 8 20 h0 h1) k l R w hl hR (by rw [parse] at h; exact h)
      | 8 => exact fun w l R hl hR h => cast_calls g T 20 (parse k 9 20) (IH 9 20 h0 h1) k l R w hl hR (by rw [parse] at h; exact h)
      | n + 9 => exact fun w l R hl hR h => prim_calls g T 20 (fun _ _ => none) (none_part g T _ _) k (by omega) h0 h1 l R w hl hR (by
          have e : parse (k + 1) (n + 9) 20 l = primP (parse k 0) k 20 l := by simp [parse]
          rw [e, prim_cut] at h; exact h)
    · match lev with
      | 0 => exact fun w l R hl hR h => or_calls g T d (parse k 1 d) (IH 1 d h0 h1) k l R w hl hR (by rw [parse] at h; exact h)
      | 1 => exact fun w l R hl hR h => and_calls g T d (parse k 2 d) (IH 2 d h0 h1) k l R w hl hR (by rw [parse] at h; exact h)
      | 2 => exact fun w l R hl hR h => not_calls g T d (parse k 2) (parse k 3) (IH 2 (d + 1) (by omega) (by omega)) (IH 3 d h0 h1) l R w h0 h1 hl hR (by rw [parse] at h; exact h)
      | 3 => exact fun w l R hl hR h => cmp_calls g T d (parse k 4 d) (IH 4 d h0 h1) l R w hl hR (by rw [parse] at h; exact h)
      | 4 => exact fun w l R hl hR h => sum_calls g T d (parse k 5 d) (IH 5 d h0 h1) k l R w hl hR (by rw [parse] at h; exact h)
      | 5 => exact fun w l R hl hR h => term_calls g T d (parse k 6 d) (IH 6 d h0 h1) k l R w hl hR (by rw [parse] at h; exact h)
      | 6 => exact fun w l R hl hR h => unary_calls g T d (parse k 6) (parse k 7) (IH 6 (d + 1) (by omega) (by omega)) (IH 7 d h0 h1) l R w h0 h1 hl hR (by rw [parse] at h; exact h)
      | 7 => exact fun w l R hl hR h => zone_calls g T d (parse k 8 d) (IH 8 d h0 h1) k l R w hl hR (by rw [parse] at h; exact h)
      | 8 => exact fun w l R hl hR h => cast_calls g T d (parse k 9 d) (IH 9 d h0 h1) k l R w hl hR (by rw [parse] at h; exact h)
      | n + 9 => exact fun w l R hl hR h => prim_calls g T d (parse k 0) (IH 0 (d + 1) (by omega) (by omega)) k (by omega) h0 h1 l R w hl hR (by
          have e : parse (k + 1) (n + 9) d l = primP (parse k 0) k d l := by simp [parse]
          rw [e] at h; exact h)
end Go.Proofs.YtfgogfdbjbnlbaaDoor.PExpr
end
section
namespace Go.Proofs.YtfgogfdbjbnlbaaDoor.PExpr
open Go.RowKit Go.Proofs.YtfgogfdbjbnlbaaDoorW.PrintWords Go.Proofs.YtfgogfdbjbnlbaaDoorW.PrintLast Go.Proofs.YtfgogfdbjbnlbaaDoorW.PrintMore
attribute [local go_sem] max2_int min2_int max_two min_two max_three min_three max_four min_four
set_option linter.unusedVariables false
set_option linter.unusedSimpArgs false
def lowB (c : Int) : Int := if 65 ≤ c ∧ c ≤ 90 then c + 32 else c
def lowL (s : ByteArray) : List Int := (bytesOf s).map lowB
def word_Lower.f (a0 : ByteArray) : Option (ByteArray) := if a0.size ≤ 140737488351232 then some (strOfNums (lowL a0)) else none
theorem lowB_or (c : Int) (h0 : 65 ≤ c) (h1 : c ≤ 90) : bits .or .u8 c 32 = lowB c := by
  unfold lowB
  rw [if_pos ⟨h0, h1⟩]
  rcases (by omega : c = 65 ∨ c = 66 ∨ c = 67 ∨ c = 68 ∨ c = 69 ∨ c = 70 ∨ c = 71 ∨ c = 72 ∨ c = 73 ∨ c = 74 ∨ c = 75 ∨ c = 76 ∨ c = 77 ∨ c = 78 ∨ c = 79 ∨ c = 80 ∨ c = 81 ∨ c = 82 ∨ c = 83 ∨ c = 84 ∨ c = 85 ∨ c = 86 ∨ c = 87 ∨ c = 88 ∨ c = 89 ∨ c = 90) with rfl | rfl | rfl | rfl | rfl | rfl | rfl | rfl | rfl | rfl | rfl | rfl | rfl | rfl | rfl | rfl | rfl | rfl | rfl | rfl | rfl | rfl | rfl | rfl | rfl | rfl <;> rfl
structure ByteRow (B : Nat) (xs : List Int) (w : World) : Prop where
  cell : ∀ i, i < xs.length → w.cell? ⟨B, i, none⟩ = some (.int .u8 (xs.getD i 0))
  free : ∀ i, i < xs.length → w.frozen? ⟨B, i, none⟩ = false
theorem ByteRow.set {B : Nat} {xs : List Int} {w : World} (h : ByteRow B xs w) (j : Nat) (hj : j < xs.length) (c : Int) : ByteRow B (xs.set j c) (w.setCell ⟨B, j, none⟩ (.int .u8 c)) := by
  refine ⟨fun i hi => ?_, fun i hi => ?_⟩
  · rw [List.length_set] at hi
    by_cases e : i = j
    · subst e
      rw [World.cell?_setCell_same _ _ _ (h.cell i hi)]
      simp [List.getD, hi]
    · rw [World.cell?_setCell_other _ _ _ _ (by intro e2; injection e2; omega), h.cell i hi]
      simp [List.getD, List.getElem?_set, Ne.symm e]
  · rw [List.length_set] at hi
    rw [World.frozen?_setCell]
    exact h.free i hi
theorem ByteRow.drewN {B : Nat} {xs : List Int} {w : World} (h : ByteRow B xs w) (n : Nat) : ByteRow B xs (w.drewN n) := by
  induction n with
  | zero => exact h
  | succ n ih => exact ⟨ih.cell, ih.free⟩
def lowTo (xs : List Int) (k : Nat) : List Int := (xs.take k).map lowB ++ xs.drop k
theorem lowTo_length (xs : List Int) (k : Nat) : (lowTo xs k).length = xs.length := by simp [lowTo]; omega
theorem lowTo_zero (xs : List Int) : lowTo xs 0 = xs := by simp [lowTo]
theorem lowTo_all (xs : List Int) : lowTo xs xs.length = xs.map lowB := by simp [lowTo]
theorem lowTo_at (xs : List Int) (k : Nat) (h : k < xs.length) : (lowTo xs k).getD k 0 = xs.getD k 0 := by
  simp [lowTo, List.getD, List.getElem?_append, List.length_take, Nat.min_eq_left (Nat.le_of_lt h)]
theorem lowTo_succ (xs : List Int) (k : Nat) (h : k < xs.length) : lowTo xs (k + 1) = (lowTo xs k).set k (lowB (xs.getD k 0)) := by
  apply List.ext_getElem?
  intro i
  have hl := lowTo_length xs k
  simp only [lowTo, List.getElem?_set, List.getElem?_append, List.length_map, List.length_take, List.getElem?_map, List.getElem?_take, List.getElem?_drop, List.length_append, List.length_drop, List.getD]
  by_cases e : k = i
  · subst e
    rw [if_pos (by omega)]
    simp [h]
    omega
  · simp only [if_neg e]
    by_cases h1 : i < k
    · rw [if_pos (by omega), if_pos (by omega), if_pos (by omega), if_pos h1]
    · rw [if_neg (by omega), if_neg (by omega)]
      congr 1
      omega
theorem lowB_same (c : Int) (h : ¬ (65 ≤ c ∧ c ≤ 90)) : lowB c = c := by unfold lowB; rw [if_neg h]
theorem set_same (xs : List Int) (k : Nat) (h : k < xs.length) (v : Int) (hv : v = xs.getD k 0) : xs.set k v = xs := by
  subst hv
  apply List.ext_getElem?
  intro i
  rw [List.getElem?_set]
  split
  · rename_i e; subst e; simp [h, List.getD]
  · rfl
theorem bytes_row (w : World) (s : ByteArray) : ByteRow w.heap.size (bytesOf s) (Lib.bytesWorld w 5 s) := by
  have hl : (bytesOf s).length = s.size := by simp [bytesOf]
  refine ⟨fun i hi => ?_, fun i hi => ?_⟩
  · rw [hl] at hi
    rw [Lib.bytesWorld_cell w 5 s i hi]
    simp [bytesOf, List.getD, hi]
  · rw [hl] at hi
    have hsz : s.size ≤ (Lib.bytesCells w 5 s).size := by simp [Lib.bytesCells]
    simp only [World.frozen?, Lib.bytesWorld_at_new]
    simp
    omega
theorem bytes_below (w : World) (s : ByteArray) : Below w.heap.size w (Lib.bytesWorld w 5 s) := by
  have hz := Lib.bytesWorld_size w 5 s
  refine ⟨?_, ?_, ?_, by omega, fun k hk => Lib.bytesWorld_at_old w 5 s k hk⟩ <;> rfl
theorem below_drewN' {B : Nat} {a w : World} (h : Below B a w) (n : Nat) : Below B a (w.drewN n) := by
  induction n with
  | zero => exact h
  | succ n ih => exact ih.drew
set_option maxHeartbeats 1000000 in
set_option maxRecDepth 100000 in
theorem word_Lower.calls (a0 : ByteArray) (r : ByteArray) (w : World) (h : word_Lower.f a0 = some r) :
    Calls Tryd.prog 55 #[.string a0] w fun e w' => e = .returned (.string r) ∧ Below w.heap.size w w' := by
  unfold word_Lower.f at h
  split at h
  · rename_i hs
    obtain rfl := Option.some.inj h
    clear h
    have hl : (bytesOf a0).length = a0.size := by simp [bytesOf]
    have hcv := fun w : World => Lib.run_convert_string_bytes (P := Tryd.prog) w 9 41 5 a0 Tryd.underlying9 Tryd.underlying41 Tryd.underlying5
    have HROW := Aside0.mk (bytes_row w a0)
    have HBEL := Aside0.mk (bytes_below w a0)
    go_enter Tryd.func55, Tryd.ntmps55
    go_wp2
    go_loopg [10] a0.size (fun kq v10 w' => ∃ j : Nat, v10 = .int .i64 j ∧ j ≤ a0.size ∧ Aside0 (kq + j = a0.size) ∧ Aside0 (ByteRow w.heap.size (lowTo (bytesOf a0) j) w') ∧ Aside0 (Below w.heap.size w w'))
    case atStart => exact ⟨0, rfl, Nat.zero_le _, ⟨rfl⟩, ⟨by rw [lowTo_zero]; exact HROW.out⟩, HBEL⟩
    case round =>
      obtain ⟨j, rfl, hj, HK, HR, HB⟩ := hrel
      clear HROW HBEL
      have HL := Aside0.mk hl
      clear hl
      by_cases hlt : j < a0.size
      · have hjl : j < (bytesOf a0).length := by rw [HL.out]; exact hlt
        have hjl2 : j < (lowTo (bytesOf a0) j).length := by rw [lowTo_length]; exact hjl
        have hc := HR.out.cell j hjl2
        have hf := HR.out.free j hjl2
        rw [lowTo_at _ _ hjl] at hc
        have HR2 := HR.out.set j hjl2 (lowB ((bytesOf a0).getD j 0))
        rw [← lowTo_succ _ _ hjl] at HR2
        have HB2 := Aside0.mk (HB.out.setCell (p := ⟨w.heap.size, j, none⟩) (Nat.le_refl _) (.int .u8 (lowB ((bytesOf a0).getD j 0))))
        have HR3 := Aside0.mk HR2
        clear HR2
        have HS := Aside0.mk (set_same (lowTo (bytesOf a0) j) j hjl2 (lowB ((bytesOf a0).getD j 0)))
        have HAt := Aside0.mk (lowTo_at _ _ hjl)
        have HSu := Aside0.mk (lowTo_succ _ _ hjl)
        clear hjl hjl2
        generalize (bytesOf a0).getD j 0 = c at hc HB2 HR3 HS HAt HSu
        by_cases h1 : 65 ≤ c
        · by_cases h2 : c ≤ 90
          · have hor : bits .or .u8 c 32 = lowB c := lowB_or c h1 h2
            go_wp2
            all_goals
              go_roundg (a0.size - (j + 1))
              case measure => have := HK.out; omega
              case rel => exact ⟨j + 1, by go_num, by omega, ⟨by omega⟩, HR3, HB2⟩
          · have HN := Aside0.mk (lowB_same c (by omega))
            go_wp2
            all_goals
              go_roundg (a0.size - (j + 1))
              case measure => have := HK.out; omega
              case rel => exact ⟨j + 1, by go_num, by omega, ⟨by omega⟩, ⟨by rw [HSu.out, HS.out (by rw [HN.out, HAt.out])]; exact HR.out⟩, HB⟩
        · have HN := Aside0.mk (lowB_same c (by omega))
          go_wp2
          all_goals
            go_roundg (a0.size - (j + 1))
            case measure => have := HK.out; omega
            case rel => exact ⟨j + 1, by go_num, by omega, ⟨by omega⟩, ⟨by rw [HSu.out, HS.out (by rw [HN.out, HAt.out])]; exact HR.out⟩, HB⟩
      · have HJ := Aside0.mk (show j = a0.size by omega)
        have HE := Aside0.mk (show lowTo (bytesOf a0) j = lowL a0 by rw [HJ.out, ← HL.out]; exact lowTo_all _)
        have hback := run_convert_bytes_arg (P := Tryd.prog) wr 41 5 Tryd.underlying41 Tryd.underlying5 w.heap.size 0 a0.size (grownCap w a0.size 0 5) (lowTo (bytesOf a0) j) (by rw [lowTo_length, HL.out]) (fun i hi => by rw [Nat.zero_add]; exact HR.out.cell i (by rw [lowTo_length, HL.out]; exact hi)) 9 Tryd.underlying9
        rw [HE.out] at hback
        go_wp2
        go_ret
        exact ⟨rfl, HB.out⟩
  · cases h
end Go.Proofs.YtfgogfdbjbnlbaaDoor.PExpr
end
