/- A line that is being read: the reader's block, its row of fields, its buffer; what the reader's methods do with them. -/
import Derived.Test.YtohhmnbcaflppaaDoorProg
import Derived.Test.YtohhmnbcaflppaaDoorWMore
import Derived.Below
import Derived.OwnWalk
import Derived.Tactics
import Derived.WalkKit
import Derived.KernelRfl
import Derived.RowKit3
import Derived.Deep.LoopGhost
import Derived.Deep.QuietTactic
import Derived.BigQuiet
import Derived.WideLaws
import Derived.Deep.DeepCutAuto
import Derived.Deep.CutBlock
import Derived.Deep.RegionHeld3
import Derived.RegionTactic
import Derived.Lib.Builder
import Derived.Lib.UnsafeStr
import Derived.Lib.OthersKept
import Derived.Laws.Externs
import Derived.Deep.RegionLaw
import Derived.Deep.AppendLies
import Derived.Outline
namespace Go.Proofs.YtohhmnbcaflppaaDoor.Rd
open Go.RowKit Go.Proofs.YtohhmnbcaflppaaDoorW.PrintWords Go.Proofs.YtohhmnbcaflppaaDoorW.PrintLast Go.Proofs.YtohhmnbcaflppaaDoorW.PrintMore
set_option linter.unusedVariables false
set_option linter.unusedSimpArgs false
/-- The reader's block. -/
def Blk (W : World) (g : Nat) (vl va vb : Value) (bi bo br : Bool) : Prop := W.heap[g]? = some (.cells #[vl, va, vb, .bool bi, .bool bo, .bool br] 59 (0, 0))
/-- Its buffer. -/
def Buf (W : World) (B : Nat) (vb : Value) (acc : List UInt8) : Prop := (acc = [] ∧ vb = .slice none 0 0) ∨ (acc ≠ [] ∧ W.ownsRow B 5 1 vb acc.length (Lib.byteCells acc))
/-- What is a text's iterator stands. -/
def KI (w w' : World) : Prop := ∀ (k : Nat) (s : ByteArray) (pos : Nat), w.heap[k]? = some (Obj.stringIter s pos) → w'.heap[k]? = some (Obj.stringIter s pos)
theorem KI.refl (w : World) : KI w w := fun _ _ _ h => h
theorem KI.trans {a b c : World} (h : KI a b) (k : KI b c) : KI a c := fun _ _ _ e => k _ _ _ (h _ _ _ e)
theorem KI.drew {a b : World} (h : KI a b) : KI a b.drew := fun _ _ _ e => h _ _ _ e
theorem KI.drewN {a b : World} (h : KI a b) (n : Nat) : KI a (b.drewN n) := fun _ _ _ e => h _ _ _ e
theorem KI.below {a b c : World} (h : KI a b) (k : Below b.heap.size b c) : KI a c := fun j s pos e => by
  have h1 := h j s pos e
  rw [k.block j (Array.getElem?_eq_some_iff.1 h1).1]
  exact h1
theorem KI.set {a b : World} {g : Nat} {cs : Array Value} {t : TypeId} {fz : Nat × Nat} (h : KI a b) (hg : b.heap[g]? = some (.cells cs t fz)) (i : Nat) (u : Value) : KI a (b.setCell ⟨g, i, none⟩ u) := fun j s pos e => by
  have h1 := h j s pos e
  rw [Below.heap_setCell b ⟨g, i, none⟩ u j (fun q => by subst q; rw [hg] at h1; cases h1)]
  exact h1
theorem KI.grown {a b c : World} {B : Nat} {e : TypeId} {size n : Nat} {v : Value} {xs : List Value} (h : KI a b) (ho : b.ownsRow B e size v n xs) (hg : b.grownBy c v.ownBlock) : KI a c := fun j s pos q => by
  have h1 := h j s pos q
  rw [hg.block j (Array.getElem?_eq_some_iff.1 h1).1 (fun q2 => ?_)]
  · exact h1
  · rcases ho.2 with ⟨rfl, _⟩ | ⟨g, cap, cur, rfl, _, hh, _⟩
    · simp [Value.ownBlock] at q2
    · simp [Value.ownBlock] at q2
      subst q2
      rw [hh] at h1
      cases h1
theorem Blk.cell {W : World} {g : Nat} {vl va vb : Value} {bi bo br : Bool} (h : Blk W g vl va vb bi bo br) : W.cell? ⟨g, 0, none⟩ = some vl ∧ W.cell? ⟨g, 1, none⟩ = some va ∧ W.cell? ⟨g, 2, none⟩ = some vb ∧ W.cell? ⟨g, 3, none⟩ = some (.bool bi) ∧ W.cell? ⟨g, 4, none⟩ = some (.bool bo) ∧ W.cell? ⟨g, 5, none⟩ = some (.bool br) := by
  refine ⟨?_, ?_, ?_, ?_, ?_, ?_⟩ <;> (rw [blk_cell h]; rfl)
theorem Blk.froz {W : World} {g : Nat} {vl va vb : Value} {bi bo br : Bool} (h : Blk W g vl va vb bi bo br) (i : Nat) : W.frozen? ⟨g, i, none⟩ = false := blk_frozen h i
theorem Blk.shape {W : World} {g : Nat} {vl va vb : Value} {bi bo br : Bool} (h : Blk W g vl va vb bi bo br) : W.shape? g = some (59, 6) := by
  unfold Blk at h
  simp [World.shape?, h]
theorem Blk.set0 {W : World} {g : Nat} {vl va vb : Value} {bi bo br : Bool} (h : Blk W g vl va vb bi bo br) (u : Value) : Blk (W.setCell ⟨g, 0, none⟩ u) g u va vb bi bo br := blk_set h 0 u
theorem Blk.set1 {W : World} {g : Nat} {vl va vb : Value} {bi bo br : Bool} (h : Blk W g vl va vb bi bo br) (u : Value) : Blk (W.setCell ⟨g, 1, none⟩ u) g vl u vb bi bo br := blk_set h 1 u
theorem Blk.set2 {W : World} {g : Nat} {vl va vb : Value} {bi bo br : Bool} (h : Blk W g vl va vb bi bo br) (u : Value) : Blk (W.setCell ⟨g, 2, none⟩ u) g vl va u bi bo br := blk_set h 2 u
theorem Blk.set3 {W : World} {g : Nat} {vl va vb : Value} {bi bo br : Bool} (h : Blk W g vl va vb bi bo br) (u : Bool) : Blk (W.setCell ⟨g, 3, none⟩ (.bool u)) g vl va vb u bo br := blk_set h 3 (.bool u)
theorem Blk.set4 {W : World} {g : Nat} {vl va vb : Value} {bi bo br : Bool} (h : Blk W g vl va vb bi bo br) (u : Bool) : Blk (W.setCell ⟨g, 4, none⟩ (.bool u)) g vl va vb bi u br := blk_set h 4 (.bool u)
theorem Blk.set5 {W : World} {g : Nat} {vl va vb : Value} {bi bo br : Bool} (h : Blk W g vl va vb bi bo br) (u : Bool) : Blk (W.setCell ⟨g, 5, none⟩ (.bool u)) g vl va vb bi bo u := blk_set h 5 (.bool u)
theorem Buf.set {W : World} {B g : Nat} {vl va vb vb' : Value} {bi bo br : Bool} {acc : List UInt8} (h : Buf W B vb' acc) (hb : Blk W g vl va vb bi bo br) (i : Nat) (u : Value) : Buf (W.setCell ⟨g, i, none⟩ u) B vb' acc := by
  rcases h with h | ⟨h0, h⟩
  · exact .inl h
  · exact .inr ⟨h0, own_setCell h (p := ⟨g, i, none⟩) (own_ne (g := g) h (show W.heap[g]? = some (.cells _ 59 (0, 0)) from hb) (by decide)) u⟩
theorem Buf.below {W W' : World} {B : Nat} {vb : Value} {acc : List UInt8} (h : Buf W B vb acc) (hb : Below W.heap.size W W') : Buf W' B vb acc := by
  rcases h with h | ⟨h0, h⟩
  · exact .inl h
  · exact .inr ⟨h0, pw_own_below h hb⟩
theorem own_set {W : World} {B g : Nat} {vl va vb v : Value} {bi bo br : Bool} {n : Nat} {xs : List Value} (h : W.ownsRow B 9 1 v n xs) (hb : Blk W g vl va vb bi bo br) (i : Nat) (u : Value) : (W.setCell ⟨g, i, none⟩ u).ownsRow B 9 1 v n xs := own_setCell h (p := ⟨g, i, none⟩) (own_ne (g := g) h (show W.heap[g]? = some (.cells _ 59 (0, 0)) from hb) (by decide)) u

set_option maxHeartbeats 1000000 in
set_option maxRecDepth 100000 in
theorem cc_used (g : Nat) (w : World) (h0 : w.cell? ⟨g, 1, none⟩ = some (.pointer (some ⟨g, 1, none⟩))) :
    Calls Tryd.prog 26 #[.pointer (some ⟨g, 1, none⟩)] w fun e w' => e = .returned (.tuple #[]) ∧ w' = w := by
  have hj : ∃ j, Tryd.prog.info? 48 = some j := Option.isSome_iff_exists.1 (by kernel_rfl)
  obtain ⟨j, hj⟩ := hj
  go_enter Tryd.func26, Tryd.ntmps26
  go_wp2
  rw [Lib.run_neq_ptr_same w _ Tryd.underlying45 hj]
  go_wp2
  go_end0
  exact ⟨rfl, rfl⟩
set_option maxHeartbeats 1000000 in
set_option maxRecDepth 100000 in
theorem cc_fresh (g : Nat) (w : World) (h0 : w.cell? ⟨g, 1, none⟩ = some (.pointer none)) (hsh : w.shape? g = some (59, 6)) (hfz : w.frozen? ⟨g, 1, none⟩ = false) :
    Calls Tryd.prog 26 #[.pointer (some ⟨g, 1, none⟩)] w fun e w' => e = .returned (.tuple #[]) ∧ w' = w.setCell ⟨g, 1, none⟩ (.pointer (some ⟨g, 1, none⟩)) := by
  have hj : (Tryd.prog.info? 48).map (fun i => i.size) = some 2 := by kernel_rfl
  obtain ⟨j, hj, hjs⟩ := Option.map_eq_some_iff.1 hj
  go_enter Tryd.func26, Tryd.ntmps26
  go_wp2
  rw [Lib.run_to_unsafe w ⟨g, 1, none⟩ Tryd.underlying45 Tryd.underlying67 hj (by rw [hjs]; decide) hsh (show 1 < 6 by decide)]
  simp only [Result.andThen]
  rw [Oper.upon_value]
  go_wp2
  rw [run_callFunc_extern Tryd.func35 (by kernel_rfl) (by kernel_rfl) (by kernel_rfl) (e := Extern.AbiNoEscape.same) (by kernel_rfl)]
  rw [Lib.run_noEscape]
  simp only [Result.andThen]
  rw [Oper.upon_value]
  go_wp2
  rw [Lib.run_from_unsafe w ⟨g, 1, none⟩ Tryd.underlying67 Tryd.underlying45 hj hsh (by kernel_rfl)]
  simp only [Result.andThen]
  rw [Oper.upon_value]
  go_wp2
  go_end0
  exact ⟨rfl, rfl⟩
/-- The copy check. -/
theorem cc (B g : Nat) (vl va vb : Value) (bi bo br : Bool) (w : World) (hg : B ≤ g) (h : Blk w g vl va vb bi bo br) (hv : va = .pointer none ∨ va = .pointer (some ⟨g, 1, none⟩)) :
    Calls Tryd.prog 26 #[.pointer (some ⟨g, 1, none⟩)] w fun e w' => e = .returned (.tuple #[]) ∧ (w' = w ∧ Blk w' g vl (.pointer (some ⟨g, 1, none⟩)) vb bi bo br ∨ w' = w.setCell ⟨g, 1, none⟩ (.pointer (some ⟨g, 1, none⟩)) ∧ Blk w' g vl (.pointer (some ⟨g, 1, none⟩)) vb bi bo br) := by
  rcases hv with rfl | rfl
  · refine (cc_fresh g w h.cell.2.1 h.shape (h.froz 1)).mono ?_
    rintro e w' ⟨rfl, rfl⟩
    exact ⟨rfl, .inr ⟨rfl, h.set1 _⟩⟩
  · refine (cc_used g w h.cell.2.1).mono ?_
    rintro e w' ⟨rfl, rfl⟩
    exact ⟨rfl, .inl ⟨rfl, h⟩⟩
theorem info5 : (Tryd.prog.info? 5).map (fun i => (i.zero, i.size, i.bytes)) = some (some (.int .u8 0), 1, 1) := by kernel_rfl
theorem info9 : (Tryd.prog.info? 9).map (fun i => (i.zero, i.size, i.bytes)) = some (some (.string ⟨#[]⟩), 1, 16) := by kernel_rfl
set_option maxHeartbeats 1000000 in
set_option maxRecDepth 100000 in
/-- One byte more. -/
theorem appendRune (B : Nat) (v : Value) (n : Nat) (xs : List Value) (c : Int) (w : World) (h0 : 0 ≤ c) (h1 : c ≤ 127) (hown : w.ownsRow B 5 1 v n xs) (hn : n < 140737488355328) (hBw : B ≤ w.heap.size) :
    Calls Tryd.prog 41 #[v, .int .i32 c] w fun e w' => ∃ v', e = .returned v' ∧ w'.ownsRow B 5 1 v' (n + 1) (xs ++ [.int .u8 c]) ∧ ∃ o, (w.alloc o).grownBy w' v.ownBlock := by
  obtain ⟨i0, hi, hz0, hz1, hz2⟩ := info_parts info5
  have e1 : c % 4294967296 = c := by omega
  have e2 : c % 256 = c := by omega
  go_enter Tryd.func41, Tryd.ntmps41
  go_wp2_with (at_builtin; refine wpList_append_own _ rfl _ _ 46 rfl B 5 i0 (.int .u8 0) 1 1 Tryd.underlying46 hi hz0 hz1 hz2 rfl (by decide) _ _ _ rfl (hown.alloc _) ⟨w.heap.size, 0, none⟩ 1 1 [.int .u8 c] rfl rfl ?c1 ?c2 ?c3 ?c4 ?c5 ?_)
  case c1 =>
    intro j u hj
    match j, hj with
    | 0, hj => simp at hj; subst hj; simp [Addr.add]
    | (j + 1), hj => simp at hj
  case c2 => intro u hu; simp at hu; subst hu; rfl
  case c3 => unfold maxLen; omega
  case c4 => omega
  case c5 => simp; omega
  intro v' w2 hown' hgrow _
  go_wp2
  go_ret
  exact ⟨_, rfl, hown', _, hgrow⟩
theorem Buf.own {W : World} {B : Nat} {vb : Value} {acc : List UInt8} (h : Buf W B vb acc) : W.ownsRow B 5 1 vb acc.length (Lib.byteCells acc) := by
  rcases h with ⟨rfl, rfl⟩ | ⟨_, h⟩
  · exact World.ownsRow_nil _ _ _ _
  · exact h
theorem byteCells_snoc (acc : List UInt8) (c : Int) (h0 : 0 ≤ c) (h1 : c ≤ 127) : Lib.byteCells acc ++ [.int .u8 c] = Lib.byteCells (acc ++ [UInt8.ofNat c.toNat]) := by
  unfold Lib.byteCells
  rw [List.map_append, List.map_cons, List.map_nil]
  have e : ((UInt8.ofNat c.toNat).toNat : Int) = c := by
    rw [UInt8.toNat_ofNat']
    omega
  rw [e]
/-- The whole of a reader. -/
def IsRd (W : World) (B g : Nat) (l : List ByteArray) (acc : List UInt8) (bi bo br : Bool) : Prop :=
  B ≤ g ∧ ∃ vl va vb, Blk W g vl va vb bi bo br ∧ (va = .pointer none ∨ va = .pointer (some ⟨g, 1, none⟩)) ∧ W.ownsRow B 9 1 vl l.length (pw_strs l) ∧ Buf W B vb acc
theorem ne_own {W : World} {B g n size : Nat} {e : TypeId} {v : Value} {xs : List Value} {vl va vb : Value} {bi bo br : Bool} (h : W.ownsRow B e size v n xs) (hb : Blk W g vl va vb bi bo br) (he : e ≠ 59) : some g ≠ v.ownBlock := own_ne (g := g) h (show W.heap[g]? = some (.cells _ 59 (0, 0)) from hb) he
theorem Blk.lt {W : World} {g : Nat} {vl va vb : Value} {bi bo br : Bool} (h : Blk W g vl va vb bi bo br) : g < W.heap.size := (Array.getElem?_eq_some_iff.1 h).1
theorem Blk.grown {W W' : World} {B g n size : Nat} {e : TypeId} {v : Value} {xs : List Value} {vl va vb : Value} {bi bo br : Bool} (hb : Blk W g vl va vb bi bo br) (h : W.ownsRow B e size v n xs) (he : e ≠ 59) (hg : W.grownBy W' v.ownBlock) : Blk W' g vl va vb bi bo br := (hg.block g hb.lt (ne_own h hb he)).trans hb
theorem Blk.alloc {W : World} {g : Nat} {vl va vb : Value} {bi bo br : Bool} (h : Blk W g vl va vb bi bo br) (o : Obj) : Blk (W.alloc o) g vl va vb bi bo br := by
  unfold Blk at h ⊢
  rw [Lib.alloc_old W o g (Array.getElem?_eq_some_iff.1 h).1]
  exact h
set_option maxHeartbeats 2000000 in
set_option maxRecDepth 100000 in
/-- WriteRune of one byte, into the reader's buffer. -/
theorem writeRune (B g : Nat) (l : List ByteArray) (acc : List UInt8) (bi bo br : Bool) (c : Int) (w : World) (h0 : 0 ≤ c) (h1 : c ≤ 127) (hn : acc.length < 140737488355328) (h : IsRd w B g l acc bi bo br) :
    Calls Tryd.prog 32 #[.pointer (some ⟨g, 1, none⟩), .int .i32 c] w fun e w' => e = .returned (.tuple #[.int .i64 1, .nilIface]) ∧ IsRd w' B g l (acc ++ [UInt8.ofNat c.toNat]) bi bo br ∧ Below B w w' ∧ KI w w' := by
  obtain ⟨hg, vl, va, vb, hb, hva, hl, hbuf⟩ := h
  have HL := Aside0.mk hl
  have HBUF := Aside0.mk hbuf
  have HB := Aside0.mk hb
  clear hl hbuf hb
  go_enter Tryd.func32, Tryd.ntmps32
  go_wp2_with (go_at_call 26; refine (cc B g vl va vb bi bo br _ hg HB.out hva).mono ?_)
  rintro e w1 ⟨rfl, hw⟩
  have hx : Blk w1 g vl (.pointer (some ⟨g, 1, none⟩)) vb bi bo br ∧ w1.ownsRow B 9 1 vl l.length (pw_strs l) ∧ Buf w1 B vb acc ∧ Below B w w1 ∧ KI w w1 ∧ B ≤ w1.heap.size := by
    have hlt := HB.out.lt
    rcases hw with ⟨rfl, hb1⟩ | ⟨rfl, hb1⟩
    · exact ⟨hb1, HL.out, HBUF.out, Below.refl _ _, KI.refl _, by omega⟩
    · exact ⟨hb1, own_set HL.out HB.out _ _, HBUF.out.set HB.out _ _, (Below.refl B w).setCell (p := ⟨g, 1, none⟩) hg _, (KI.refl w).set HB.out _ _, by have := hb1.lt; omega⟩
  clear hw
  obtain ⟨hb1, hl1, hbuf1, hbel1, hk1, hB1⟩ := hx
  have hown := hbuf1.own
  obtain ⟨A, cap, hvb⟩ := own_slice hown
  subst hvb
  have z1 := hb1.cell.2.2.1
  have L1 := Aside0.mk hl1
  have O1 := Aside0.mk hown
  have B1 := Aside0.mk hb1
  have E1 := Aside0.mk hbel1
  have K1 := Aside0.mk hk1
  clear hl1 hown hb1 hbel1 hk1 hbuf1
  have hnl : acc.length ≤ 9223372036854775807 := by omega
  go_wp2_with (go_at_call 41; refine (appendRune B _ acc.length (Lib.byteCells acc) c _ h0 h1 O1.out hn hB1).mono ?_)
  rintro e w2 ⟨v', rfl, hown2, o, hgr⟩
  obtain ⟨A2, cap2, hv2⟩ := own_slice hown2
  subst hv2
  have hgr' := hgr
  have b2 : Blk w2 g vl (.pointer (some ⟨g, 1, none⟩)) (.slice A acc.length cap) bi bo br := (B1.out.alloc o).grown (O1.out.alloc o) (by decide) hgr
  have l2 : w2.ownsRow B 9 1 vl l.length (pw_strs l) := (L1.out.alloc o).kept hgr (own_type_ne (L1.out.alloc o) (O1.out.alloc o) (by decide))
  have e2 : Below B w w2 := (E1.out.alloc hB1 o).grown hgr (by simp; omega) (fun k hk => (O1.out.lt k hk).1)
  have k2 : KI w w2 := (K1.out.below (below_alloc (Below.refl _ _) o)).grown (O1.out.alloc o) hgr
  have z20 := b2.cell.2.2.1
  have y20 := b2.froz 2
  have L2 := Aside0.mk l2
  have O2 := Aside0.mk hown2
  have B2 := Aside0.mk b2
  have E2 := Aside0.mk e2
  have K2 := Aside0.mk k2
  clear l2 hown2 b2 e2 k2 hgr hgr'
  go_wp2
  go_ret2
  refine ⟨by simp; omega, ⟨hg, vl, _, _, B2.out.set2 _, .inr rfl, own_set L2.out B2.out _ _, .inr ⟨by simp, ?_⟩⟩, E2.out.setCell (p := ⟨g, 2, none⟩) hg _, K2.out.set B2.out _ _⟩
  rw [← byteCells_snoc acc c h0 h1, List.length_append]
  exact own_setCell O2.out (p := ⟨g, 2, none⟩) (ne_own O2.out B2.out (by decide)) _
set_option maxHeartbeats 1000000 in
set_option maxRecDepth 100000 in
/-- Reset. -/
theorem reset (g : Nat) (vl va vb : Value) (bi bo br : Bool) (w : World) (h : Blk w g vl va vb bi bo br) :
    Calls Tryd.prog 34 #[.pointer (some ⟨g, 1, none⟩)] w fun e w' => e = .returned (.tuple #[]) ∧ w' = (w.setCell ⟨g, 1, none⟩ (.pointer none)).setCell ⟨g, 2, none⟩ (.slice none 0 0) := by
  have z1 := h.cell.2.1
  have y1 := h.froz 1
  have z2 := (h.set1 (.pointer none)).cell.2.2.1
  have y2 := (h.set1 (.pointer none)).froz 2
  have H := Aside0.mk h
  clear h
  go_enter Tryd.func34, Tryd.ntmps34
  go_wp2
  go_end0
  exact ⟨rfl, rfl⟩
set_option maxHeartbeats 1000000 in
set_option maxRecDepth 100000 in
/-- String of an empty buffer. -/
theorem string_nil (g : Nat) (vl va : Value) (bi bo br : Bool) (w : World) (h : Blk w g vl va (.slice none 0 0) bi bo br) :
    Calls Tryd.prog 22 #[.pointer (some ⟨g, 1, none⟩)] w fun e w' => e = .returned (.string ⟨#[]⟩) ∧ w' = w.drew := by
  have hUS : ∀ W : World, (Builtin.unsafeString_ #[62, 3] 9 #[.pointer none, .int .i64 0]).run Tryd.prog W = .ok (.string .empty) W := fun W => Lib.run_unsafeString_none W _ _ _ none
  have hd : Blk w.drew g vl va (.slice none 0 0) bi bo br := h
  have c1 := hd.cell.2.2.1
  have hSD : (Builtin.unsafeSliceData_ #[46] 62 #[.slice none 0 0]).run Tryd.prog w.drew = .ok (.pointer none) w.drew := rfl
  have H := Aside0.mk h
  clear h hd
  go_enter Tryd.func22, Tryd.ntmps22
  go_wp2
  go_region
  all_goals (go_wp2; go_ret; exact ⟨rfl, rfl⟩)
set_option maxHeartbeats 1000000 in
set_option maxRecDepth 100000 in
/-- String of a buffer that holds something. -/
theorem string_some (B g : Nat) (vl va vb : Value) (acc : List UInt8) (bi bo br : Bool) (w : World) (h : Blk w g vl va vb bi bo br) (hown : w.ownsRow B 5 1 vb acc.length (Lib.byteCells acc)) (h0 : acc ≠ []) :
    Calls Tryd.prog 22 #[.pointer (some ⟨g, 1, none⟩)] w fun e w' => e = .returned (.string ⟨acc.toArray⟩) ∧ ∃ k, vb.ownBlock = some k ∧ w' = w.drew.freeze ⟨k, 0, none⟩ acc.length := by
  have hl0 : acc.length ≠ 0 := by simpa using h0
  obtain ⟨k, cap, cur, rfl, hbg, hk, hnc, hcm, hcs, htake⟩ : ∃ k cap cur, vb = .slice (some ⟨k, 0, none⟩) acc.length cap ∧ B ≤ k ∧ w.heap[k]? = some (.cells cur 5 (0, 0)) ∧ acc.length ≤ cap ∧ cap ≤ maxLen ∧ cur.size = cap * 1 ∧ cur.toList.take (acc.length * 1) = Lib.byteCells acc := by
    rcases hown.2 with ⟨_, hz⟩ | ⟨k, cap, cur, hv, r⟩
    · exact absurd hz hl0
    · exact ⟨k, cap, cur, hv, r⟩
  have hd : Blk w.drew g vl va (.slice (some ⟨k, 0, none⟩) acc.length cap) bi bo br := h
  have c1 := hd.cell.2.2.1
  have hSD : (Builtin.unsafeSliceData_ #[46] 62 #[.slice (some ⟨k, 0, none⟩) acc.length cap]).run Tryd.prog w.drew = .ok (.pointer (some ⟨k, 0, none⟩)) w.drew :=
    Lib.run_unsafeSliceData_row _ _ _ _ _ _ (by omega)
  have hUS : (Builtin.unsafeString_ #[62, 3] 9 #[.pointer (some ⟨k, 0, none⟩), .int .i64 acc.length]).run Tryd.prog w.drew = .ok (.string ⟨acc.toArray⟩) (w.drew.freeze ⟨k, 0, none⟩ acc.length) := by
    refine Lib.run_unsafeString_row w.drew 62 3 9 5 Tryd.underlying62 (by kernel_rfl) k cur.size (by have hg' : w.drew.heap[k]? = some (.cells cur 5 (0, 0)) := hk; simp [World.shape?, hg']) acc h0 (by omega) (by unfold maxLen at hcm; omega) ?_
    intro j x hx
    exact hown.cells (g := k) rfl j (.int .u8 x.toNat) (by simp [Lib.byteCells, hx])
  have H := Aside0.mk h
  have HO := Aside0.mk hown
  have HK := Aside0.mk hk
  clear h hd hown hk htake hcs hcm h0 hl0 hbg hnc
  go_enter Tryd.func22, Tryd.ntmps22
  go_wp2
  go_region
  all_goals (go_wp2; go_ret; exact ⟨rfl, _, rfl, rfl⟩)
/-- What String does to memory: the buffer's row may be marked; its cells are as they were. -/
def Fz (B : Nat) (vb : Value) (w w' : World) : Prop := w'.heap.size = w.heap.size ∧ (∀ k, some k ≠ vb.ownBlock → w'.heap[k]? = w.heap[k]?) ∧ Below B w w'
theorem Fz.blk {B g : Nat} {vl va vb : Value} {bi bo br : Bool} {w w' : World} (h : Fz B vb w w') (hb : Blk w g vl va vb bi bo br) (hne : some g ≠ vb.ownBlock) : Blk w' g vl va vb bi bo br := (h.2.1 g hne).trans hb
theorem Fz.own {B n size : Nat} {e : TypeId} {v : Value} {xs : List Value} {vb : Value} {w w' : World} (h : Fz B vb w w') (ho : w.ownsRow B e size v n xs) (hne : v.ownBlock = none ∨ v.ownBlock ≠ vb.ownBlock) : w'.ownsRow B e size v n xs := by
  refine ⟨ho.1, ?_⟩
  rcases ho.2 with h0 | ⟨g, cap, cur, hv, hg, hh, r⟩
  · exact .inl h0
  · refine .inr ⟨g, cap, cur, hv, hg, ?_, r⟩
    rw [h.2.1 g]
    · exact hh
    · subst hv
      simp [Value.ownBlock] at hne ⊢
      exact hne
theorem Fz.iter {B n size : Nat} {e : TypeId} {xs : List Value} {vb : Value} {w w' : World} (h : Fz B vb w w') (ho : w.ownsRow B e size vb n xs) : KI w w' := fun j s pos q => by
  rw [h.2.1 j]
  · exact q
  · intro q2
    rcases ho.2 with ⟨rfl, _⟩ | ⟨g, cap, cur, rfl, _, hh, _⟩
    · simp [Value.ownBlock] at q2
    · simp [Value.ownBlock] at q2
      subst q2
      rw [hh] at q
      cases q
theorem freeze_other (w : World) (k n j : Nat) (h : j ≠ k) : (w.freeze ⟨k, 0, none⟩ n).heap[j]? = w.heap[j]? := by
  unfold World.freeze
  split
  · rfl
  · simp [Array.getElem?_modify, Ne.symm h]
/-- String. -/
theorem string_any (B g : Nat) (vl va vb : Value) (acc : List UInt8) (bi bo br : Bool) (w : World) (h : Blk w g vl va vb bi bo br) (hb : Buf w B vb acc) :
    Calls Tryd.prog 22 #[.pointer (some ⟨g, 1, none⟩)] w fun e w' => e = .returned (.string ⟨acc.toArray⟩) ∧ Fz B vb w w' := by
  rcases hb with ⟨rfl, rfl⟩ | ⟨h0, ho⟩
  · refine (string_nil g vl va bi bo br w h).mono ?_
    rintro e w' ⟨rfl, rfl⟩
    exact ⟨rfl, rfl, fun _ _ => rfl, (Below.refl B w).drew⟩
  · refine (string_some B g vl va vb acc bi bo br w h ho h0).mono ?_
    rintro e w' ⟨rfl, k, hk, rfl⟩
    have hkB := (ho.lt k hk).1
    refine ⟨rfl, ?_, fun j hj => ?_, ?_⟩
    · unfold World.freeze
      split
      · rfl
      · exact Array.size_modify ..
    · rw [freeze_other _ _ _ _ (fun q => hj (by rw [q, hk]))]
      rfl
    · exact Lib.below_freeze (Below.drew (Below.refl B w)) (p := ⟨k, 0, none⟩) hkB _

set_option maxHeartbeats 4000000 in
set_option maxRecDepth 100000 in
/-- The end of a field that is there. -/
theorem end_yes (B g : Nat) (l : List ByteArray) (acc : List UInt8) (vl va vb : Value) (bo br : Bool) (w : World) (hg : B ≤ g) (hn : l.length < 1000000000) (hb : Blk w g vl va vb true bo br) (hl : w.ownsRow B 9 1 vl l.length (pw_strs l)) (hbuf : Buf w B vb acc) :
    Calls Tryd.prog 25 #[.pointer (some ⟨g, 0, none⟩)] w fun e w' => e = .returned (.tuple #[]) ∧ IsRd w' B g (l ++ [⟨acc.toArray⟩]) [] false bo br ∧ Below B w w' ∧ KI w w' := by
  obtain ⟨i0, hi, hz0, hz1, hz2⟩ := info_parts info9
  obtain ⟨A, cap, hvl⟩ := own_slice hl
  subst hvl
  have z0 := hb.cell.1
  have z3 := hb.cell.2.2.2.1
  have hlt := hb.lt
  have HLT := Aside0.mk (show B ≤ w.heap.size by omega)
  clear hlt
  have HL := Aside0.mk hl
  have HB := Aside0.mk hb
  have HBUF := Aside0.mk hbuf
  have hown := Aside0.mk hbuf.own
  have hne := ne_own hown.out hb (by decide)
  have hnl := own_type_ne hl hown.out (by decide)
  have HNE := Aside0.mk hne
  have HBd := Aside0.mk (show Blk w.drew g (.slice A l.length cap) va vb true bo br from hb)
  have HBUFd := Aside0.mk (hbuf.below (below_drew (Below.refl _ w)))
  have HNL := Aside0.mk hnl
  clear hl hb hbuf hne hnl
  go_enter Tryd.func25, Tryd.ntmps25
  go_upto_region 1 with (fail)
  go_region_law (first | (go_simp; go_at_call 22; refine (string_any B g (.slice A l.length cap) va vb acc true bo br _ HBd.out HBUFd.out).mono ?_; rintro e w1 ⟨rfl, hf⟩; have OL := Aside0.mk (hf.own (pw_own_below HL.out (below_drew (Below.refl _ w))) HNL.out); have hb1 := hf.blk HBd.out HNE.out; have z10 := hb1.cell.1; have z11 := (hb1.alloc (.cells #[.string ⟨acc.toArray⟩] 9)).cell.1; have HB1 := Aside0.mk hb1; have HF := Aside0.mk hf; clear hb1 hf) | (refine step_append_lies _ (by rfl) _ _ _ (by rfl) B 9 i0 _ 1 16 Tryd.underlying38 hi hz0 hz1 hz2 rfl (by omega) (.slice A l.length cap) l.length (pw_strs l) (by rfl) (OL.out.alloc _) ⟨w1.heap.size, 0, none⟩ 1 1 [.string ⟨acc.toArray⟩] (by rfl) (by rfl) (World.news_of_block (cs := #[.string ⟨acc.toArray⟩]) (t := 9) (fr := (0, 0)) (heap_alloc_new w1 _)) (by simp [Value.oneCell']) (by omega) (by unfold maxLen; omega) (by omega) (by have h4 := HLT.out; have h2 := HF.out.1; have h3 : w.drew.heap.size = w.heap.size := rfl; simp; omega) (w1.heap.size + 1) (by simp) ?_; intro gg cc w3 ho hgr hat hlt3; have hb3 := (HB1.out.alloc (.cells #[.string ⟨acc.toArray⟩] 9)).grown (OL.out.alloc _) (by decide) hgr; have z30 := hb3.cell.1; have y30 := hb3.froz 0; have HB3 := Aside0.mk hb3; have HO3 := Aside0.mk ho; have HBEL3 := Aside0.mk ((HF.out.2.2.trans ((Below.refl B w1).alloc (by have h4 := HLT.out; have h2 := HF.out.1; have h3 : w.drew.heap.size = w.heap.size := rfl; omega) (.cells #[.string ⟨acc.toArray⟩] 9))).grown hgr (by have h4 := HLT.out; have h2 := HF.out.1; have h3 : w.drew.heap.size = w.heap.size := rfl; simp; omega) (fun k hk => (OL.out.lt k hk).1)); have HK3 := Aside0.mk (((HF.out.iter HBUFd.out.own).below (below_alloc (Below.refl _ w1) (.cells #[.string ⟨acc.toArray⟩] 9))).grown (OL.out.alloc _) hgr); clear ho hgr hb3)
    )
  all_goals
    have HBELd := Aside0.mk (((Below.refl B w).drew).trans HBEL3.out)
    have hb4 := HB3.out.set0 (.slice (some ⟨gg, 0, none⟩) (l.length + 1) cc)
    have HB4 := Aside0.mk hb4
    go_wp2_with (go_at_call 34; refine (reset g _ _ _ _ _ _ _ HB4.out).mono ?_; rintro e w5 ⟨rfl, rfl⟩; have z53 := ((HB4.out.set1 (.pointer none)).set2 (.slice none 0 0)).cell.2.2.2.1; have y53 := ((HB4.out.set1 (.pointer none)).set2 (.slice none 0 0)).froz 3)
    go_end0
    refine ⟨rfl, ⟨hg, _, _, _, ((HB4.out.set1 (.pointer none)).set2 (.slice none 0 0)).set3 false, .inl rfl, ?_, .inl ⟨rfl, rfl⟩⟩, ?_, ?_⟩
    · have h1 := own_set HO3.out HB3.out 0 (.slice (some ⟨gg, 0, none⟩) (l.length + 1) cc)
      have h2 := own_set h1 HB4.out 1 (.pointer none)
      have h3 := own_set h2 (HB4.out.set1 (.pointer none)) 2 (.slice none 0 0)
      have h4 := own_set h3 ((HB4.out.set1 (.pointer none)).set2 (.slice none 0 0)) 3 (.bool false)
      rw [List.length_append, show pw_strs (l ++ [⟨acc.toArray⟩]) = pw_strs l ++ [.string ⟨acc.toArray⟩] by simp [pw_strs]]
      exact h4
    · exact (((HBELd.out.setCell (p := ⟨g, 0, none⟩) hg _).setCell (p := ⟨g, 1, none⟩) hg _).setCell (p := ⟨g, 2, none⟩) hg _).setCell (p := ⟨g, 3, none⟩) hg _
    · exact (((KI.drew (KI.refl w)).trans HK3.out).set HB3.out 0 _ |>.set HB4.out 1 _ |>.set (HB4.out.set1 (.pointer none)) 2 _).set ((HB4.out.set1 (.pointer none)).set2 (.slice none 0 0)) 3 _
set_option maxHeartbeats 2000000 in
set_option maxRecDepth 100000 in
/-- Where no field is there. -/
theorem end_no (B g : Nat) (l : List ByteArray) (vl va vb : Value) (bo br : Bool) (w : World) (hg : B ≤ g) (hb : Blk w g vl va vb false bo br) (hl : w.ownsRow B 9 1 vl l.length (pw_strs l)) :
    Calls Tryd.prog 25 #[.pointer (some ⟨g, 0, none⟩)] w fun e w' => e = .returned (.tuple #[]) ∧ IsRd w' B g l [] false bo br ∧ Below B w w' ∧ KI w w' := by
  have z3 := hb.cell.2.2.2.1
  have HL := Aside0.mk hl
  have HB4 := Aside0.mk hb
  clear hl hb
  go_enter Tryd.func25, Tryd.ntmps25
  go_wp2_with (go_at_call 34; refine (reset g _ _ _ _ _ _ _ HB4.out).mono ?_; rintro e w5 ⟨rfl, rfl⟩; have z53 := ((HB4.out.set1 (.pointer none)).set2 (.slice none 0 0)).cell.2.2.2.1; have y53 := ((HB4.out.set1 (.pointer none)).set2 (.slice none 0 0)).froz 3)
  go_end0
  refine ⟨rfl, ⟨hg, _, _, _, ((HB4.out.set1 (.pointer none)).set2 (.slice none 0 0)).set3 false, .inl rfl, ?_, .inl ⟨rfl, rfl⟩⟩, ?_, ?_⟩
  · exact own_set (own_set (own_set HL.out HB4.out 1 (.pointer none)) (HB4.out.set1 (.pointer none)) 2 (.slice none 0 0)) ((HB4.out.set1 (.pointer none)).set2 (.slice none 0 0)) 3 (.bool false)
  · exact (((Below.refl B w).setCell (p := ⟨g, 1, none⟩) hg _).setCell (p := ⟨g, 2, none⟩) hg _).setCell (p := ⟨g, 3, none⟩) hg _
  · exact (((KI.refl w).set HB4.out 1 _).set (HB4.out.set1 (.pointer none)) 2 _).set ((HB4.out.set1 (.pointer none)).set2 (.slice none 0 0)) 3 _
/-- The fields behind a field's end. -/
def ended (l : List ByteArray) (acc : List UInt8) (bi : Bool) : List ByteArray := if bi = true then l ++ [⟨acc.toArray⟩] else l
/-- end. -/
theorem end_any (B g : Nat) (l : List ByteArray) (acc : List UInt8) (bi bo br : Bool) (w : World) (hn : l.length < 1000000000) (h : IsRd w B g l acc bi bo br) :
    Calls Tryd.prog 25 #[.pointer (some ⟨g, 0, none⟩)] w fun e w' => e = .returned (.tuple #[]) ∧ IsRd w' B g (ended l acc bi) [] false bo br ∧ Below B w w' ∧ KI w w' := by
  obtain ⟨hg, vl, va, vb, hb, hva, hl, hbuf⟩ := h
  cases bi with
  | true =>
    exact end_yes B g l acc vl va vb bo br w hg hn hb hl hbuf
  | false =>
    exact end_no B g l vl va vb bo br w hg hb hl
theorem IsRd.cells {W : World} {B g : Nat} {l : List ByteArray} {acc : List UInt8} {bi bo br : Bool} (h : IsRd W B g l acc bi bo br) : W.cell? ⟨g, 3, none⟩ = some (.bool bi) ∧ W.cell? ⟨g, 4, none⟩ = some (.bool bo) ∧ W.cell? ⟨g, 5, none⟩ = some (.bool br) ∧ (∀ i, W.frozen? ⟨g, i, none⟩ = false) ∧ B ≤ g ∧ g < W.heap.size := by
  obtain ⟨hg, vl, va, vb, hb, _, _, _⟩ := h
  exact ⟨hb.cell.2.2.2.1, hb.cell.2.2.2.2.1, hb.cell.2.2.2.2.2, hb.froz, hg, hb.lt⟩
theorem IsRd.set3 {W : World} {B g : Nat} {l : List ByteArray} {acc : List UInt8} {bi bo br : Bool} (h : IsRd W B g l acc bi bo br) (u : Bool) : IsRd (W.setCell ⟨g, 3, none⟩ (.bool u)) B g l acc u bo br := by
  obtain ⟨hg, vl, va, vb, hb, hv, hl, hbuf⟩ := h
  exact ⟨hg, vl, va, vb, hb.set3 u, hv, own_set hl hb _ _, hbuf.set hb _ _⟩
theorem IsRd.set4 {W : World} {B g : Nat} {l : List ByteArray} {acc : List UInt8} {bi bo br : Bool} (h : IsRd W B g l acc bi bo br) (u : Bool) : IsRd (W.setCell ⟨g, 4, none⟩ (.bool u)) B g l acc bi u br := by
  obtain ⟨hg, vl, va, vb, hb, hv, hl, hbuf⟩ := h
  exact ⟨hg, vl, va, vb, hb.set4 u, hv, own_set hl hb _ _, hbuf.set hb _ _⟩
theorem IsRd.set5 {W : World} {B g : Nat} {l : List ByteArray} {acc : List UInt8} {bi bo br : Bool} (h : IsRd W B g l acc bi bo br) (u : Bool) : IsRd (W.setCell ⟨g, 5, none⟩ (.bool u)) B g l acc bi bo u := by
  obtain ⟨hg, vl, va, vb, hb, hv, hl, hbuf⟩ := h
  exact ⟨hg, vl, va, vb, hb.set5 u, hv, own_set hl hb _ _, hbuf.set hb _ _⟩
theorem IsRd.ki {W a : World} {B g : Nat} {l : List ByteArray} {acc : List UInt8} {bi bo br : Bool} (h : IsRd W B g l acc bi bo br) (k : KI a W) (i : Nat) (u : Value) : KI a (W.setCell ⟨g, i, none⟩ u) := by
  obtain ⟨hg, vl, va, vb, hb, hv, hl, hbuf⟩ := h
  exact k.set hb i u
theorem IsRd.bel {W a : World} {B g : Nat} {l : List ByteArray} {acc : List UInt8} {bi bo br : Bool} (h : IsRd W B g l acc bi bo br) (k : Below B a W) (i : Nat) (u : Value) : Below B a (W.setCell ⟨g, i, none⟩ u) := k.setCell (p := ⟨g, i, none⟩) h.1 u
set_option maxHeartbeats 2000000 in
set_option maxRecDepth 100000 in
/-- plain: a blank. -/
theorem plain_blank (B g : Nat) (l : List ByteArray) (acc : List UInt8) (bi bo br : Bool) (c : Int) (w : World) (hc : c = 32 ∨ c = 9 ∨ c = 13) (hn : l.length < 1000000000) (h : IsRd w B g l acc bi bo br) :
    Calls Tryd.prog 33 #[.pointer (some ⟨g, 0, none⟩), .int .i32 c] w fun e w' => e = .returned (.tuple #[]) ∧ IsRd w' B g (ended l acc bi) [] false bo br ∧ Below B w w' ∧ KI w w' := by
  have H := Aside0.mk h
  clear h
  rcases hc with rfl | rfl | rfl
  all_goals
    go_enter Tryd.func33, Tryd.ntmps33
    go_wp2_with (go_at_call 25; refine (end_any B g l acc bi bo br _ hn H.out).mono ?_; rintro e w' ⟨rfl, h1, h2, h3⟩; have H1 := Aside0.mk h1; have H2 := Aside0.mk h2; have H3 := Aside0.mk h3; clear h1 h2 h3)
    go_end0
    exact ⟨rfl, H1.out, H2.out, H3.out⟩
set_option maxHeartbeats 2000000 in
set_option maxRecDepth 100000 in
/-- plain: a #. -/
theorem plain_rest (B g : Nat) (l : List ByteArray) (acc : List UInt8) (bi bo br : Bool) (w : World) (hn : l.length < 1000000000) (h : IsRd w B g l acc bi bo br) :
    Calls Tryd.prog 33 #[.pointer (some ⟨g, 0, none⟩), .int .i32 35] w fun e w' => e = .returned (.tuple #[]) ∧ IsRd w' B g (ended l acc bi) [] false bo true ∧ Below B w w' ∧ KI w w' := by
  have z5 := h.cells.2.2.1
  have y5 := h.cells.2.2.2.1 5
  have H := Aside0.mk h
  clear h
  go_enter Tryd.func33, Tryd.ntmps33
  go_wp2_with (go_at_call 25; refine (end_any B g l acc bi bo true _ hn (H.out.set5 true)).mono ?_; rintro e w' ⟨rfl, h1, h2, h3⟩; have H1 := Aside0.mk h1; have H2 := Aside0.mk h2; have H3 := Aside0.mk h3; clear h1 h2 h3)
  go_end0
  exact ⟨rfl, H1.out, (H.out.bel (Below.refl B w) 5 (.bool true)).trans H2.out, (H.out.ki (KI.refl w) 5 (.bool true)).trans H3.out⟩
set_option maxHeartbeats 2000000 in
set_option maxRecDepth 100000 in
/-- plain: any other. -/
theorem plain_char (B g : Nat) (l : List ByteArray) (acc : List UInt8) (bi bo br : Bool) (c : Int) (w : World) (h0 : 0 ≤ c) (h1 : c ≤ 127) (hc : c ≠ 35 ∧ c ≠ 32 ∧ c ≠ 9 ∧ c ≠ 13) (hn : acc.length < 140737488355328) (h : IsRd w B g l acc bi bo br) :
    Calls Tryd.prog 33 #[.pointer (some ⟨g, 0, none⟩), .int .i32 c] w fun e w' => e = .returned (.tuple #[]) ∧ IsRd w' B g l (acc ++ [UInt8.ofNat c.toNat]) true bo br ∧ Below B w w' ∧ KI w w' := by
  have z3 := h.cells.1
  have y3 := h.cells.2.2.2.1 3
  have b1 : (c == 35) = false := by simpa using hc.1
  have b2 : (c == 32) = false := by simpa using hc.2.1
  have b3 : (c == 9) = false := by simpa using hc.2.2.1
  have b4 : (c == 13) = false := by simpa using hc.2.2.2
  have H := Aside0.mk h
  clear h hc
  go_enter Tryd.func33, Tryd.ntmps33
  go_wp2_with (go_at_call 32; refine (writeRune B g l acc true bo br c _ h0 h1 hn (H.out.set3 true)).mono ?_; rintro e w' ⟨rfl, h1, h2, h3⟩; have H1 := Aside0.mk h1; have H2 := Aside0.mk h2; have H3 := Aside0.mk h3; clear h1 h2 h3)
  go_end0
  exact ⟨rfl, H1.out, (H.out.bel (Below.refl B w) 3 (.bool true)).trans H2.out, (H.out.ki (KI.refl w) 3 (.bool true)).trans H3.out⟩
/-- A reader's state. -/
structure RS where
  l : List ByteArray
  acc : List UInt8
  bi : Bool
  bo : Bool
  br : Bool
/-- What can not stand in a line. -/
def Bad (c : Int) : Prop := 126 < c ∨ (c < 32 ∧ c ≠ 9 ∧ c ≠ 13)
instance (c : Int) : Decidable (Bad c) := by unfold Bad; infer_instance
/-- One rune. -/
def RS.step (s : RS) (c : Int) : Option RS :=
  if Bad c then none
  else if s.br = true then some s
  else if c = 34 then some { s with bo := !s.bo, bi := true }
  else if s.bo = true then (if c = 13 then none else some { s with acc := s.acc ++ [UInt8.ofNat c.toNat] })
  else if c = 35 then some { s with l := ended s.l s.acc s.bi, acc := [], bi := false, br := true }
  else if c = 32 ∨ c = 9 ∨ c = 13 then some { s with l := ended s.l s.acc s.bi, acc := [], bi := false }
  else some { s with acc := s.acc ++ [UInt8.ofNat c.toNat], bi := true }
def IsSt (W : World) (B g : Nat) (s : RS) : Prop := IsRd W B g s.l s.acc s.bi s.bo s.br
set_option maxHeartbeats 2000000 in
set_option maxRecDepth 100000 in
theorem take_bad (g : Nat) (c : Int) (w : World) (hc : Bad c) :
    Calls Tryd.prog 24 #[.pointer (some ⟨g, 0, none⟩), .int .i32 c] w fun e w' => e = .returned (.bool false) ∧ w' = w := by
  rcases hc with hc | ⟨h1, h2, h3⟩
  · go_enter Tryd.func24, Tryd.ntmps24
    go_wp2
    go_ret
    exact ⟨rfl, rfl⟩
  · have b0 : ¬ 126 < c := by omega
    have b2 : (c != 9) = true := by simpa using h2
    have b3 : (c != 13) = true := by simpa using h3
    go_enter Tryd.func24, Tryd.ntmps24
    go_wp2
    go_ret
    exact ⟨rfl, rfl⟩
/-- A good rune, by the tests that Go makes. -/
theorem good (c : Int) (h : ¬ Bad c) : 0 ≤ c ∧ c ≤ 126 ∧ (c = 9 ∨ c = 13 ∨ 32 ≤ c) := by
  unfold Bad at h
  omega
set_option maxHeartbeats 2000000 in
set_option maxRecDepth 100000 in
theorem take_rest (B g : Nat) (s : RS) (c : Int) (w : World) (hc : ¬ Bad c) (h : IsRd w B g s.l s.acc s.bi s.bo true) :
    Calls Tryd.prog 24 #[.pointer (some ⟨g, 0, none⟩), .int .i32 c] w fun e w' => e = .returned (.bool true) ∧ w' = w := by
  have z5 := h.cells.2.2.1
  clear h
  obtain ⟨h0, h1, h2⟩ := good c hc
  clear hc
  have b0 : ¬ 126 < c := by omega
  rcases h2 with rfl | rfl | h2
  · go_enter Tryd.func24, Tryd.ntmps24
    go_wp2
    go_ret
    exact ⟨rfl, rfl⟩
  · go_enter Tryd.func24, Tryd.ntmps24
    go_wp2
    go_ret
    exact ⟨rfl, rfl⟩
  · have b1 : ¬ c < 32 := by omega
    go_enter Tryd.func24, Tryd.ntmps24
    go_wp2
    go_ret
    exact ⟨rfl, rfl⟩
set_option maxHeartbeats 2000000 in
set_option maxRecDepth 100000 in
theorem take_quote (B g : Nat) (l : List ByteArray) (acc : List UInt8) (bi bo : Bool) (w : World) (h : IsRd w B g l acc bi bo false) :
    Calls Tryd.prog 24 #[.pointer (some ⟨g, 0, none⟩), .int .i32 34] w fun e w' => e = .returned (.bool true) ∧ IsRd w' B g l acc true (!bo) false ∧ Below B w w' ∧ KI w w' := by
  have z5 := h.cells.2.2.1
  have z4 := h.cells.2.1
  have y4 := h.cells.2.2.2.1 4
  have z3 := (h.set4 (!bo)).cells.1
  have y3 := (h.set4 (!bo)).cells.2.2.2.1 3
  have H := Aside0.mk h
  clear h
  go_enter Tryd.func24, Tryd.ntmps24
  go_wp2
  go_ret
  exact ⟨rfl, (H.out.set4 (!bo)).set3 true, (H.out.set4 (!bo)).bel (H.out.bel (Below.refl B w) 4 (.bool (!bo))) 3 (.bool true), (H.out.set4 (!bo)).ki (H.out.ki (KI.refl w) 4 (.bool (!bo))) 3 (.bool true)⟩
set_option maxHeartbeats 2000000 in
set_option maxRecDepth 100000 in
theorem take_cr (B g : Nat) (l : List ByteArray) (acc : List UInt8) (bi : Bool) (w : World) (h : IsRd w B g l acc bi true false) :
    Calls Tryd.prog 24 #[.pointer (some ⟨g, 0, none⟩), .int .i32 13] w fun e w' => e = .returned (.bool false) ∧ w' = w := by
  have z5 := h.cells.2.2.1
  have z4 := h.cells.2.1
  clear h
  go_enter Tryd.func24, Tryd.ntmps24
  go_wp2
  go_ret
  exact ⟨rfl, rfl⟩
set_option maxHeartbeats 2000000 in
set_option maxRecDepth 100000 in
theorem take_open (B g : Nat) (l : List ByteArray) (acc : List UInt8) (bi : Bool) (c : Int) (w : World) (hc : ¬ Bad c) (h34 : c ≠ 34) (h13 : c ≠ 13) (hn : acc.length < 140737488355328) (h : IsRd w B g l acc bi true false) :
    Calls Tryd.prog 24 #[.pointer (some ⟨g, 0, none⟩), .int .i32 c] w fun e w' => e = .returned (.bool true) ∧ IsRd w' B g l (acc ++ [UInt8.ofNat c.toNat]) bi true false ∧ Below B w w' ∧ KI w w' := by
  have z5 := h.cells.2.2.1
  have z4 := h.cells.2.1
  have H := Aside0.mk h
  clear h
  obtain ⟨h0, h1, h2⟩ := good c hc
  clear hc
  have b0 : ¬ 126 < c := by omega
  have b34 : (c == 34) = false := by simpa using h34
  have b13 : (c == 13) = false := by simpa using h13
  have b13' : (c != 13) = true := by simpa using h13
  have h127 : c ≤ 127 := by omega
  rcases h2 with rfl | h2 | h2
  · clear b34 b13 b13' h34 h13
    go_enter Tryd.func24, Tryd.ntmps24
    go_wp2_with (go_at_call 32; refine (writeRune B g l acc bi true false 9 _ (by decide) (by decide) hn H.out).mono ?_; rintro e w' ⟨rfl, h1, h2, h3⟩; have H1 := Aside0.mk h1; have H2 := Aside0.mk h2; have H3 := Aside0.mk h3; clear h1 h2 h3)
    go_ret
    exact ⟨rfl, H1.out, H2.out, H3.out⟩
  · exact absurd h2 h13
  · have b1 : ¬ c < 32 := by omega
    go_enter Tryd.func24, Tryd.ntmps24
    go_wp2_with (go_at_call 32; refine (writeRune B g l acc bi true false c _ h0 h127 hn H.out).mono ?_; rintro e w' ⟨rfl, h1, h2, h3⟩; have H1 := Aside0.mk h1; have H2 := Aside0.mk h2; have H3 := Aside0.mk h3; clear h1 h2 h3)
    go_ret
    exact ⟨rfl, H1.out, H2.out, H3.out⟩
set_option maxHeartbeats 2000000 in
set_option maxRecDepth 100000 in
/-- A rune in no quotes: by what 'plain' does. -/
theorem take_plain (B g : Nat) (l : List ByteArray) (acc : List UInt8) (bi : Bool) (c : Int) (w : World) (l' : List ByteArray) (acc' : List UInt8) (bi' br' : Bool) (hc : ¬ Bad c) (h34 : c ≠ 34) (h : IsRd w B g l acc bi false false)
    (hp : Calls Tryd.prog 33 #[.pointer (some ⟨g, 0, none⟩), .int .i32 c] w fun e w' => e = .returned (.tuple #[]) ∧ IsRd w' B g l' acc' bi' false br' ∧ Below B w w' ∧ KI w w') :
    Calls Tryd.prog 24 #[.pointer (some ⟨g, 0, none⟩), .int .i32 c] w fun e w' => e = .returned (.bool true) ∧ IsRd w' B g l' acc' bi' false br' ∧ Below B w w' ∧ KI w w' := by
  have z5 := h.cells.2.2.1
  have z4 := h.cells.2.1
  have HP := Aside0.mk hp
  clear h hp
  obtain ⟨h0, h1, h2⟩ := good c hc
  clear hc
  have b0 : ¬ 126 < c := by omega
  have b34 : (c == 34) = false := by simpa using h34
  rcases h2 with rfl | rfl | h2
  · clear b34 h34
    go_enter Tryd.func24, Tryd.ntmps24
    go_wp2_with (go_at_call 33; refine HP.out.mono ?_; rintro e w' ⟨rfl, h1, h2, h3⟩; have H1 := Aside0.mk h1; have H2 := Aside0.mk h2; have H3 := Aside0.mk h3; clear h1 h2 h3)
    go_ret
    exact ⟨rfl, H1.out, H2.out, H3.out⟩
  · clear b34 h34
    go_enter Tryd.func24, Tryd.ntmps24
    go_wp2_with (go_at_call 33; refine HP.out.mono ?_; rintro e w' ⟨rfl, h1, h2, h3⟩; have H1 := Aside0.mk h1; have H2 := Aside0.mk h2; have H3 := Aside0.mk h3; clear h1 h2 h3)
    go_ret
    exact ⟨rfl, H1.out, H2.out, H3.out⟩
  · have b1 : ¬ c < 32 := by omega
    go_enter Tryd.func24, Tryd.ntmps24
    go_wp2_with (go_at_call 33; refine HP.out.mono ?_; rintro e w' ⟨rfl, h1, h2, h3⟩; have H1 := Aside0.mk h1; have H2 := Aside0.mk h2; have H3 := Aside0.mk h3; clear h1 h2 h3)
    go_ret
    exact ⟨rfl, H1.out, H2.out, H3.out⟩
/-- take: a rune that can be. -/
theorem take_some (B g : Nat) (s s' : RS) (c : Int) (w : World) (hl : s.l.length < 1000000000) (hn : s.acc.length < 140737488355328) (h : IsSt w B g s) (hs : s.step c = some s') :
    Calls Tryd.prog 24 #[.pointer (some ⟨g, 0, none⟩), .int .i32 c] w fun e w' => e = .returned (.bool true) ∧ IsSt w' B g s' ∧ Below B w w' ∧ KI w w' := by
  obtain ⟨l, acc, bi, bo, br⟩ := s
  unfold RS.step at hs
  unfold IsSt at h ⊢
  simp only at h hs hl hn
  by_cases hb : Bad c
  · rw [if_pos hb] at hs; cases hs
  rw [if_neg hb] at hs
  cases br with
  | true =>
    rw [if_pos rfl] at hs
    obtain rfl := Option.some.inj hs
    refine (take_rest B g ⟨l, acc, bi, bo, true⟩ c w hb h).mono ?_
    rintro e w' ⟨rfl, rfl⟩
    exact ⟨rfl, h, Below.refl _ _, KI.refl _⟩
  | false =>
    rw [if_neg Bool.false_ne_true] at hs
    by_cases h34 : c = 34
    · subst h34
      rw [if_pos rfl] at hs
      obtain rfl := Option.some.inj hs
      exact take_quote B g l acc bi bo w h
    rw [if_neg h34] at hs
    cases bo with
    | true =>
      rw [if_pos rfl] at hs
      by_cases h13 : c = 13
      · rw [if_pos h13] at hs; cases hs
      rw [if_neg h13] at hs
      obtain rfl := Option.some.inj hs
      exact take_open B g l acc bi c w hb h34 h13 hn h
    | false =>
      rw [if_neg Bool.false_ne_true] at hs
      by_cases h35 : c = 35
      · subst h35
        rw [if_pos rfl] at hs
        obtain rfl := Option.some.inj hs
        exact take_plain B g l acc bi 35 w _ _ _ _ hb h34 h (plain_rest B g l acc bi false false w hl h)
      rw [if_neg h35] at hs
      by_cases hbl : c = 32 ∨ c = 9 ∨ c = 13
      · rw [if_pos hbl] at hs
        obtain rfl := Option.some.inj hs
        exact take_plain B g l acc bi c w _ _ _ _ hb h34 h (plain_blank B g l acc bi false false c w hbl hl h)
      rw [if_neg hbl] at hs
      obtain rfl := Option.some.inj hs
      have hg := good c hb
      exact take_plain B g l acc bi c w _ _ _ _ hb h34 h (plain_char B g l acc bi false false c w hg.1 (by omega) ⟨h35, by omega, by omega, by omega⟩ hn h)
/-- take: a rune that can not be. -/
theorem take_none (B g : Nat) (s : RS) (c : Int) (w : World) (h : IsSt w B g s) (hs : s.step c = none) :
    Calls Tryd.prog 24 #[.pointer (some ⟨g, 0, none⟩), .int .i32 c] w fun e w' => e = .returned (.bool false) ∧ w' = w := by
  obtain ⟨l, acc, bi, bo, br⟩ := s
  unfold RS.step at hs
  unfold IsSt at h
  simp only at h hs
  by_cases hb : Bad c
  · exact take_bad g c w hb
  rw [if_neg hb] at hs
  cases br with
  | true => rw [if_pos rfl] at hs; cases hs
  | false =>
    rw [if_neg Bool.false_ne_true] at hs
    by_cases h34 : c = 34
    · rw [if_pos h34] at hs; cases hs
    rw [if_neg h34] at hs
    cases bo with
    | true =>
      rw [if_pos rfl] at hs
      by_cases h13 : c = 13
      · subst h13
        exact take_cr B g l acc bi w h
      rw [if_neg h13] at hs; cases hs
    | false =>
      rw [if_neg Bool.false_ne_true] at hs
      by_cases h35 : c = 35
      · rw [if_pos h35] at hs; cases hs
      rw [if_neg h35] at hs
      by_cases hbl : c = 32 ∨ c = 9 ∨ c = 13
      · rw [if_pos hbl] at hs; cases hs
      rw [if_neg hbl] at hs; cases hs
end Go.Proofs.YtohhmnbcaflppaaDoor.Rd
