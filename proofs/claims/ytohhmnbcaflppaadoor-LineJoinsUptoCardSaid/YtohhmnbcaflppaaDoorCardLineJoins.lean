/- The row of 'LineJoins' where what it reads is of bulk at most 1048576, and its tied card. -/
import Derived.Test.YtohhmnbcaflppaaDoorRows
import Derived.Test.YtohhmnbcaflppaaDoorLLemG
import Derived.Test.YtohhmnbcaflppaaDoorPLinex6
import Derived.WalkKit
import Derived.ProofKit
import Derived.OpenShut
import Derived.ShutString
import Derived.ChangeOld
import Derived.Below
import Derived.Test.YtohhmnbcaflppaaDoorCards
import Derived.Test.YtohhmnbcaflppaaDoorTie
import Derived.PinnedBridge
import Derived.Lay
import Derived.LaidOnce
import Derived.SevenTiedAt
import Derived.Deep.DeepHandedRow
import Derived.Deep.SlicePairs
import Derived.Deep.Strs
import Derived.WideKeyArgs
namespace Go.Proofs.YtohhmnbcaflppaaDoor.lineJoins
open Go.ChangeShapes Go.WideShapes Go.ChangeAt Go.RowKit Go.Deep Go.Proofs.YtohhmnbcaflppaaDoor.PLine Go.Proofs.YtohhmnbcaflppaaDoor.LNum
open Go.Proofs.YtohhmnbcaflppaaDoorW.PrintWords
set_option linter.unusedVariables false
theorem own : ownKnob Tryd.prog.godebug = none := by kernel_rfl
theorem cells44 : Tryd.prog.cellsOf 44 = 2 := by kernel_rfl
theorem cells3 : Tryd.prog.cellsOf 3 = 1 := by kernel_rfl
theorem cells38 : Tryd.prog.cellsOf 38 = 1 := by kernel_rfl
theorem cells9 : Tryd.prog.cellsOf 9 = 1 := by kernel_rfl
theorem laidOut : laidOutB Tryd.prog = true := by kernel_rfl
theorem readable26 : Tryd.prog.readableRec 26 = true := by kernel_rfl
theorem rowed26 : 26 < Tryd.prog.types.size := of_decide_eq_true (by kernel_rfl)
section
variable {H : Type} {enc : TypeId × Value → H} {w : World} {base : Nat} {sp : Nat → Bool} {held : Bool}
theorem bulk_append (l r : List (DataW H)) : Rows.uptoBulkAll (l ++ r) = Rows.uptoBulkAll l + Rows.uptoBulkAll r := by
  induction l with
  | nil => simp [Rows.uptoBulkAll]
  | cons x l ih => simp only [List.cons_append, Rows.uptoBulkAll, ih]; omega
theorem bulk_strs (f : Nat → ByteArray) : ∀ ns : List Nat, mesF (ns.map f) = Rows.uptoBulkAll (ns.map fun i => (DataW.lit (.string (f i).data.toList) : DataW H))
  | [] => rfl
  | n :: r => by
    rw [List.map_cons, List.map_cons, mesF, Rows.uptoBulkAll, ← bulk_strs f r, Rows.uptoBulk]
    have e : (f n).data.toList.length = (f n).size := by rw [Array.length_toList]; rfl
    omega
/-- A slice of strings, as the walk wants it. -/
theorem strs_of {fuel : Nat} {v : Value} {d : DataW H} {p : List MemPlace} (h : DataW.trod enc Tryd.prog w base sp held fuel 38 [v] = some (d, p)) :
    ∃ (A : Option Addr) (c : Nat) (fs : List ByteArray), v = .slice A fs.length c ∧ fs.length ≤ c ∧ Kd.string.C w A fs.length fs ∧ mesF fs ≤ Rows.uptoBulk d := by
  rcases open_strs Tryd.underlying38 Tryd.underlying9 cells9 h with ⟨hc, hx⟩ | ⟨a, len, cap, m, Sx, hc, _, hl, hm, hmm, hx, hall⟩
  · obtain rfl := (List.cons.inj hc).1
    exact ⟨none, 0, [], rfl, Nat.le_refl _, ⟨rfl, by simp, fun h => absurd h (by simp)⟩, Nat.zero_le _⟩
  · obtain rfl := (List.cons.inj hc).1
    have hlm : len ≤ m := by rw [hmm]; split <;> omega
    have hlen : ((List.range len).map Sx).length = len := by simp
    refine ⟨some a, cap, (List.range len).map Sx, by rw [hlen], by omega, ?_, ?_⟩
    · refine Kd.C_of_reads (d := ByteArray.empty) ⟨rfl, ?_, fun _ => ⟨a, rfl, fun j hj => ?_⟩⟩
      · have : maxLen ≤ 9223372036854775807 := by decide
        omega
      · rw [hlen] at hj
        rw [(hall j (by omega)).1]
        simp [hj]
    · obtain rfl := (Prod.mk.inj hx).1
      rw [bulk_strs (H := H), Rows.uptoBulk]
      omega
instance : Inhabited S44 := ⟨⟨0, []⟩⟩
theorem bulk_lines (q : Nat → S44) (D : Nat → DataW H) : ∀ ns : List Nat, (∀ i ∈ ns, mesF (q i).f1 + 1 ≤ Rows.uptoBulk (D i)) → mes (ns.map q) ≤ Rows.uptoBulkAll (ns.map D)
  | [], _ => Nat.zero_le _
  | n :: r, h => by
    have h1 := h n (by simp)
    have h2 := bulk_lines q D r (fun i hi => h i (by simp [hi]))
    rw [List.map_cons, List.map_cons, mes, Rows.uptoBulkAll]
    omega
/-- The argument, as the walk wants it. -/
theorem lines_of {fuel : Nat} {v : Value} {d : DataW H} {p : List MemPlace} (h : DataW.trod enc Tryd.prog w base sp held fuel 26 [v] = some (d, p)) :
    ∃ (A : Option Addr) (c : Nat) (l : List S44), v = .slice A l.length c ∧ l.length ≤ c ∧ Kd.C k44 w A l.length l ∧ mes l ≤ Rows.uptoBulk d := by
  rcases open_slice_pairs Tryd.underlying26 Tryd.underlying44 cells44 rfl rfl cells3 cells38 h with ⟨hc, hx⟩ | ⟨a, len, cap, m, k, V0, V1, D0, D1, P0, P1, hc, _, hl, hm, hmm, hx, hall⟩
  · obtain rfl := (List.cons.inj hc).1
    exact ⟨none, 0, [], rfl, Nat.le_refl _, ⟨rfl, by simp, fun h => absurd h (by simp)⟩, Nat.zero_le _⟩
  · obtain rfl := (List.cons.inj hc).1
    have hlm : len ≤ m := by rw [hmm]; split <;> omega
    obtain ⟨q, hq⟩ := choose_lt (α := S44) (n := len) (p := fun i x => ∃ A1 c1, V0 i = .int .i64 x.f0 ∧ V1 i = .slice A1 x.f1.length c1 ∧ x.f1.length ≤ c1 ∧ Kd.string.C w A1 x.f1.length x.f1 ∧ mesF x.f1 ≤ Rows.uptoBulk (D1 i)) (fun i hi => by
      obtain ⟨_, _, h0, h1⟩ := hall i (by omega)
      obtain ⟨n, hn, _, _⟩ := DataW.trod_int Tryd.underlying3 h0
      obtain ⟨A1, c1, fs, hv, hle, hC, hms⟩ := strs_of h1
      exact ⟨⟨n, fs⟩, A1, c1, (List.cons.inj hn).1, hv, hle, hC, hms⟩)
    have hlen : ((List.range len).map q).length = len := by simp
    refine ⟨some a, cap, (List.range len).map q, by rw [hlen], by omega, ⟨rfl, ?_, fun _ => ⟨a, rfl, fun j p hj => ?_⟩⟩, ?_⟩
    · have : maxLen ≤ 9223372036854775807 := by decide
      omega
    · obtain ⟨hjl, hp⟩ := List.getElem?_eq_some_iff.1 hj
      rw [hlen] at hjl
      obtain rfl : q j = p := by simpa using hp
      obtain ⟨A1, c1, e0, e1, hle, hC, _⟩ := hq j hjl
      obtain ⟨g0, g1, _, _⟩ := hall j (by omega)
      refine ⟨[.int .i64 (q j).f0, .slice A1 (q j).f1.length c1], rfl, k44_mk w (q j) hle hC, fun i u hu => ?_⟩
      have hsz : k44.sz = 2 := rfl
      rw [hsz]
      match i, hu with
      | 0, hu =>
        obtain rfl := Option.some.inj (show some (Value.int .i64 (q j).f0) = some u from hu)
        rw [← e0]; exact g0
      | 1, hu =>
        obtain rfl := Option.some.inj (show some (Value.slice A1 (q j).f1.length c1) = some u from hu)
        rw [← e1]; exact g1
    · obtain rfl := (Prod.mk.inj hx).1
      have := bulk_lines q (fun i => DataW.agg [D0 i, D1 i]) (List.range len) (fun i hi => by
        obtain ⟨A1, c1, e0, e1, hle, hC, hms⟩ := hq i (List.mem_range.1 hi)
        show mesF (q i).f1 + 1 ≤ Rows.uptoBulk (DataW.agg [D0 i, D1 i])
        simp only [Rows.uptoBulk, Rows.uptoBulkAll]
        omega)
      rw [Rows.uptoBulk]
      omega
end
set_option maxRecDepth 100000 in
theorem lifted (os : Os) (started : os.Started) (H : Type) (enc : TypeId × Value → H) (F : Stop.Interp) :
    ReturnsInHanded {} Tryd.checked os 4 .any ((Rows.OpenSpec.upto Rows.lineJoinsSpec).preRow enc Tryd.prog Tryd.f4 Rows.lineJoinsUptoRow.domain false Rows.lineJoinsUptoRow.laid) (((Rows.OpenSpec.upto Rows.lineJoinsSpec).at F).post enc Tryd.prog Tryd.f4 false true false false) := by
  have hx : ∃ places, DataW.whole enc Tryd.prog ((World.laidAll Tryd.prog os Rows.lineJoinsUptoRow.laid).forCall (fun _ _ => 0) ⟨#[], #[.slice none 0 0], []⟩).memory Tryd.f4.params.toList (Rows.OpenSpec.upto Rows.lineJoinsSpec).vars false #[Value.slice none 0 0].toList 8 = some ([.nil], [], places) := ⟨[], by kernel_rfl⟩
  obtain ⟨places, hx⟩ := hx
  refine returnsInHanded_of_row (C := Tryd.checked) (s := Rows.OpenSpec.upto Rows.lineJoinsSpec) own started (by kernel_rfl) Tryd.func4
    ⟨World.laidAll Tryd.prog os Rows.lineJoinsUptoRow.laid, fun _ _ => 0, ⟨#[], #[.slice none 0 0], []⟩, World.laidAll_os _ _ _, World.shaped_of_ZipB (by kernel_rfl) (by kernel_rfl), rfl,
      (Input.okWide_of_okWideB (by kernel_rfl)).2,
      OpenSpec.preRow_of_cond 8 hx (by kernel_rfl) (fun k hk => by cases hk; kernel_rfl) (by kernel_rfl) (by rw [MakeChecks.laidMetH_plain _ _ _ (by kernel_rfl)]; exact laidMet_laidAll _ (by kernel_rfl) (by kernel_rfl)),
      by simp only [Assume.holds]; exact ⟨by simp, by simp, fun _ => Modest.zero, by simp, by simp⟩⟩ ?_
  intro W base args ds gs before hval0 hW _ hk0 _ hL _ _
  have hk := hk0 Rows.uptoSmall rfl
  have hval : ∀ (j : Nat) t v, Tryd.f4.params[j]? = some t → args[j]? = some v → Value.okWide Tryd.prog W .any base t v := hval0
  have hW' := hW
  obtain ⟨p, q, hA0, hV, rfl, hfz, hnd⟩ := hW
  have hA : DataW.TrodAll enc Tryd.prog W 0 (fun _ => true) true Tryd.f4.params.toList args.toList ds p := hA0
  rw [Tryd.params4] at hA hval
  have hlt := hA.lt
  obtain ⟨v0, vs0, d0, ds0, p0, q0, hargs, rfl, rfl, h0, r0⟩ := trodAll_cons hA
  obtain ⟨rfl, rfl, rfl⟩ := trodAll_nil r0
  obtain rfl : args = #[v0] := by cases args; simp_all
  obtain ⟨rfl, rfl⟩ := trodVars_none hV
  obtain ⟨a0, len, cap, rfl⟩ := okWide_slice Tryd.underlying26 (hval 0 26 v0 rfl rfl)
  obtain ⟨n, hn⟩ := id h0
  obtain ⟨A, c, l, hv, hle, hC, hms⟩ := lines_of (v := .slice a0 len cap) hn
  rw [hv] at h0 hW' ⊢
  have hsm : mes l ≤ 1048576 := by
    have h : Rows.uptoBulkAll [d0] ≤ 1048576 := of_decide_eq_true hk
    simp only [Rows.uptoBulkAll] at h
    omega
  clear hA0 hval0 hk0
  obtain ⟨k, hj⟩ := joins l hsm
  refine (computuslaw06_LineJoins.calls k A c l true W hC hle hj).mono fun e W' ⟨he, bel⟩ => ?_
  subst he
  exact ⟨_, rfl, _, _, _, [], _, [], hW', trodAll_mk1 (shut_bool Tryd.underlying4 _),
    trodAll_cons_mk (Go.WideElems.Trod_stays laidOut readable26 rowed26 h0 (fun x hx => bel.same (hlt x (by simp [hx]))) (fun x hx => by simpa using hlt x (by simp [hx]))) trodAll_mk0, rfl, bel.frame _, fun h => by cases h⟩
theorem said : Rows.LineJoinsUptoSaid :=
  OpenClaim.holds_of_cond 4 Tryd.f4 rfl rfl rfl rfl rfl rfl rfl ⟨rfl, rfl, rfl, rfl, rfl⟩ rfl rfl rfl rfl rfl (by kernel_rfl) Tryd.func4 (by kernel_rfl)
    (of_decide_eq_true (by kernel_rfl)) (by unfold Func.isWrapper; first | (rw [if_pos (by decide +kernel)]; kernel_rfl) | (rw [if_neg (by decide +kernel)]; exact ⟨rfl, rfl⟩))
    (fun os started H enc _ F => by rw [OpenClaim.pre_eq_preRow]; exact lifted os started H enc F)
/-- No parameter wants a stand-in; the program's own looks are off. -/
theorem plain (f : FuncId) (fn : Func) (hf : Tryd.pinned.checked.prog.funcNamed "computus/computuslaw06.LineJoins" = some f) (hfn : Tryd.pinned.checked.prog.funcs[f]? = some fn) :
    false = Tryd.pinned.checked.prog.looks [] ∧ ∀ (j : Nat) t, fn.params[j]? = some t → Tryd.pinned.checked.prog.wantsStandIn t = false := by
  obtain rfl : f = 4 := Option.some.inj ((show Tryd.prog.funcNamed "computus/computuslaw06.LineJoins" = some 4 by kernel_rfl).symm.trans hf) |>.symm
  obtain rfl : fn = Tryd.f4 := (Option.some.inj (Tryd.func4.symm.trans hfn)).symm
  refine ⟨by kernel_rfl, fun j t ht => ?_⟩
  rw [Tryd.params4] at ht
  obtain rfl : t = 26 := by simpa using Array.mem_of_getElem? ht
  exact (show Tryd.prog.wantsStandIn 26 = false by kernel_rfl)
theorem proved : Rows.LineJoinsUptoCardSaid :=
  Claim7.holds_tied_plain_at .later [] _ _ _ _ said (fun _ h => by cases h) (by kernel_rfl) (fun _ h => by cases h) lineJoinsUpto_row_tie rfl ⟨rfl, rfl⟩ (by kernel_rfl) rfl plain (by kernel_rfl)
#print axioms proved
end Go.Proofs.YtohhmnbcaflppaaDoor.lineJoins
namespace Go.Proofs.YtohhmnbcaflppaaDoor
/-- The row, under a short name, for the claim. -/
theorem lineJoinsUptoCard_holds : Rows.LineJoinsUptoCardSaid := lineJoins.proved
end Go.Proofs.YtohhmnbcaflppaaDoor
