/- One line's fields: the reference reads them alike. -/
import Derived.Test.YtohhmnbcaflppaaDoorJn
import Derived.Test.YtohhmnbcaflppaaDoorPLinex6
namespace Go.Proofs.YtohhmnbcaflppaaDoor.LNum
open Go.RowKit Go.Proofs.YtohhmnbcaflppaaDoor.PLine Go.Proofs.YtohhmnbcaflppaaDoor.Rd Go.Proofs.YtohhmnbcaflppaaDoorW.PrintWords Go.Proofs.YtohhmnbcaflppaaDoorW.PrintLast Go.Proofs.YtohhmnbcaflppaaDoorW.PrintMore
set_option linter.unusedVariables false
set_option linter.unusedSimpArgs false
theorem w64 (x : Int) (h1 : -9223372036854775808 ≤ x) (h2 : x ≤ 9223372036854775807) : wrap64 x = x := by unfold wrap64; omega
/-- Bytes as numbers. -/
def ints (l : List UInt8) : List Int := l.map fun b => (b.toNat : Int)
theorem ints_app (a b : List UInt8) : ints (a ++ b) = ints a ++ ints b := List.map_append ..
theorem ints_len (a : List UInt8) : (ints a).length = a.length := List.length_map ..
theorem str_ints (l : List UInt8) : strOfNums (ints l) = ⟨l.toArray⟩ := by
  unfold strOfNums ints
  rw [List.map_map]
  have e : l.map ((fun n : Int => UInt8.ofNat n.toNat) ∘ fun b : UInt8 => (b.toNat : Int)) = l := by
    conv => rhs; rw [← List.map_id l]
    refine List.map_congr_left (fun b _ => ?_)
    simp
  rw [e]
/-- What is open is in a field. -/
def Inv (st : RS) : Prop := st.bo = true → st.bi = true
theorem inv_step (st st' : RS) (c : Int) (h : Inv st) (hs : st.step c = some st') : Inv st' := by
  obtain ⟨l, acc, bi, bo, br⟩ := st
  unfold Inv at h ⊢
  unfold RS.step at hs
  simp only at h hs
  repeat' split at hs
  all_goals first | (cases hs; done) | (obtain rfl := Option.some.inj hs; simp_all)
theorem bt_range' (s : ByteArray) (i : Int) : 0 ≤ bt s i ∧ bt s i ≤ 255 := bt_range s i
theorem bt_nat (s : ByteArray) (pos : Nat) (h : pos < s.size) : bt s (pos : Int) = ((s[pos]'h).toNat : Int) := Utf.bt_get s pos h
/-- The reference, from a place on. -/
theorem one_from (s : ByteArray) (hz : s.size ≤ 100000) : ∀ (d pos : Nat) (st : RS), pos + d = s.size → Inv st → st.l.length ≤ pos → st.acc.length ≤ pos → Ev (fun k => computusref06_one.l0 k s st.l (ints st.acc) st.bo st.bi st.br (pos : Int)) (out (rdL (s.data.toList.drop pos) st)) := by
  intro d
  induction d with
  | zero =>
    intro pos st hd hi hl ha
    rw [rd_end s pos st (by omega)]
    refine Ev.step (f := fun _ => some (out (some st))) (fun k => ?_) (Ev.now _)
    rw [computusref06_one.l0, if_neg (by omega)]
    obtain ⟨l, acc, bi, bo, br⟩ := st
    simp only at hl
    cases bi with
    | true => rw [if_pos rfl, if_pos (show l.length < 8796093022208 by omega), str_ints]; rfl
    | false => rw [if_neg Bool.false_ne_true]; rfl
  | succ d ih =>
    intro pos st hd hi hl ha
    have hp : pos < s.size := by omega
    rw [rd_cons s pos st hp]
    have hbt := bt_nat s pos hp
    have hr := bt_range s (pos : Int)
    have hw : wrap64 ((pos : Int) + 1) = ((pos + 1 : Nat) : Int) := by rw [w64 _ (by omega) (by omega)]; omega
    generalize hc : ((s[pos]'hp).toNat : Int) = c at hbt
    have hone : ints [UInt8.ofNat c.toNat] = [c] := by
      have e : UInt8.ofNat c.toNat = s[pos]'hp := by rw [← hc, Int.toNat_natCast]; exact Utf.byte_eq rfl
      rw [e, ← hc]
      rfl
    have go : ∀ st', st.step c = some st' → Ev (fun k => computusref06_one.l0 k s st'.l (ints st'.acc) st'.bo st'.bi st'.br ((pos + 1 : Nat) : Int)) (out ((st.step c).bind (rdL (s.data.toList.drop (pos + 1))))) := by
      intro st' hs
      have hlen := step_len st st' c hs
      rw [hs]
      exact ih (pos + 1) st' (by omega) (inv_step st st' c hi hs) (by omega) (by omega)
    have bad : st.step c = none → out ((st.step c).bind (rdL (s.data.toList.drop (pos + 1)))) = ([], false) := fun hs => by rw [hs]; rfl
    have hl2 : st.l.length < 8796093022208 := by omega
    have ha2 : (ints st.acc).length < 140737488355328 := by rw [ints_len]; omega
    obtain ⟨l, acc, bi, bo, br⟩ := st
    simp only at go bad hl2 ha2 ⊢
    -- the first test
    refine Ev.step (f := fun k => computusref06_one.j1 k s l (ints acc) bo bi br (pos : Int) c (decide (Bad c))) (fun k => ?_) ?_
    · rw [computusref06_one.l0, if_pos (by omega), if_pos (by omega), hbt]
      have B : ∀ b : Bool, (b = true ↔ Bad c) → decide (Bad c) = b := fun b hb => by rw [Bool.eq_iff_iff, decide_eq_true_eq, hb]
      by_cases h1 : c < 32
      · rw [if_pos h1]
        by_cases h9 : c = 9
        · rw [if_pos h9, B false (by unfold Bad; simp; omega)]
        · rw [if_neg h9, B (c != 13) (by unfold Bad; simp; omega)]
      · rw [if_neg h1]
        by_cases h2 : c > 126
        · rw [if_pos h2, if_neg (by omega), B (c != 13) (by unfold Bad; simp; omega)]
        · rw [if_neg h2, B false (by unfold Bad; simp; omega)]
    by_cases hb : Bad c
    · rw [bad (by unfold RS.step; rw [if_pos hb])]
      refine Ev.step (f := fun _ => some ([], false)) (fun k => ?_) (Ev.now _)
      rw [computusref06_one.j1, if_pos (decide_eq_true hb)]
    · have hnb : ¬ decide (Bad c) = true := by simpa using hb
      cases br with
      | true =>
        refine Ev.step (f := fun k => computusref06_one.l0 k s l (ints acc) bo bi true ((pos + 1 : Nat) : Int)) (fun k => ?_) (go _ (by unfold RS.step; rw [if_neg hb, if_pos rfl]))
        rw [computusref06_one.j1, if_neg hnb, if_pos rfl, hw]
      | false =>
        cases bo with
        | true =>
          obtain rfl : bi = true := hi rfl
          by_cases h13 : c = 13
          · rw [bad (by unfold RS.step; rw [if_neg hb, if_neg Bool.false_ne_true, if_neg (by omega), if_pos rfl, if_pos h13])]
            refine Ev.step (f := fun _ => some ([], false)) (fun k => ?_) (Ev.now _)
            rw [computusref06_one.j1, if_neg hnb, if_neg Bool.false_ne_true, if_pos rfl, if_pos h13]
          · by_cases h34 : c = 34
            · refine Ev.step (f := fun k => computusref06_one.l0 k s l (ints acc) false true false ((pos + 1 : Nat) : Int)) (fun k => ?_) (go ⟨l, acc, true, false, false⟩ (by unfold RS.step; rw [if_neg hb, if_neg Bool.false_ne_true, if_pos h34]; rfl))
              rw [computusref06_one.j1, if_neg hnb, if_neg Bool.false_ne_true, if_pos rfl, if_neg h13, if_pos h34, hw]
            · refine Ev.step (f := fun k => computusref06_one.l0 k s l (ints (acc ++ [UInt8.ofNat c.toNat])) true true false ((pos + 1 : Nat) : Int)) (fun k => ?_) (go ⟨l, acc ++ [UInt8.ofNat c.toNat], true, true, false⟩ (by unfold RS.step; rw [if_neg hb, if_neg Bool.false_ne_true, if_neg h34, if_pos rfl, if_neg h13]))
              rw [computusref06_one.j1, if_neg hnb, if_neg Bool.false_ne_true, if_pos rfl, if_neg h13, if_neg h34, if_pos ha2, hw, ints_app, hone]
        | false =>
          by_cases h34 : c = 34
          · refine Ev.step (f := fun k => computusref06_one.l0 k s l (ints acc) true true false ((pos + 1 : Nat) : Int)) (fun k => ?_) (go ⟨l, acc, true, true, false⟩ (by unfold RS.step; rw [if_neg hb, if_neg Bool.false_ne_true, if_pos h34]; rfl))
            rw [computusref06_one.j1, if_neg hnb, if_neg Bool.false_ne_true, if_neg Bool.false_ne_true, if_pos h34, hw]
          · have hj2 : ∀ b : Bool, (b = true ↔ (c = 35 ∨ c = 32 ∨ c = 9 ∨ c = 13)) → ∀ k, computusref06_one.j1 (k + 1) s l (ints acc) false bi false (pos : Int) c (decide (Bad c)) = computusref06_one.j2 k s l (ints acc) false bi false (pos : Int) c b := by
              intro b hbb k
              rw [computusref06_one.j1, if_neg hnb, if_neg Bool.false_ne_true, if_neg Bool.false_ne_true, if_neg h34]
              by_cases g1 : c = 35
              · rw [if_pos g1, hbb.2 (.inl g1)]
              · rw [if_neg g1]
                by_cases g2 : c = 32
                · rw [if_pos g2, hbb.2 (.inr (.inl g2))]
                · rw [if_neg g2]
                  by_cases g3 : c = 9
                  · rw [if_pos g3, hbb.2 (.inr (.inr (.inl g3)))]
                  · rw [if_neg g3]
                    have e : (c == 13) = b := by
                      rw [Bool.eq_iff_iff, hbb, beq_iff_eq]
                      omega
                    rw [e]
            by_cases hbl : c = 35 ∨ c = 32 ∨ c = 9 ∨ c = 13
            · have hstep : RS.step ⟨l, acc, bi, false, false⟩ c = some ⟨ended l acc bi, [], false, false, c == 35⟩ := by
                unfold RS.step
                rw [if_neg hb, if_neg Bool.false_ne_true, if_neg h34, if_neg Bool.false_ne_true]
                by_cases g1 : c = 35
                · rw [if_pos g1, show (c == 35) = true by simp [g1]]
                · rw [if_neg g1, if_pos (by omega), show (c == 35) = false by simp [g1]]
              refine Ev.step (fun k => hj2 true ⟨fun _ => hbl, fun _ => rfl⟩ k) ?_
              refine Ev.step (f := fun k => computusref06_one.l0 k s (ended l acc bi) (ints []) false false (c == 35) ((pos + 1 : Nat) : Int)) (fun k => ?_) (go _ hstep)
              rw [computusref06_one.j2, if_pos rfl]
              cases bi with
              | true => rw [if_pos rfl, if_pos hl2, hw, str_ints]; rfl
              | false => rw [if_neg Bool.false_ne_true, hw]; rfl
            · have hstep : RS.step ⟨l, acc, bi, false, false⟩ c = some ⟨l, acc ++ [UInt8.ofNat c.toNat], true, false, false⟩ := by
                unfold RS.step
                rw [if_neg hb, if_neg Bool.false_ne_true, if_neg h34, if_neg Bool.false_ne_true, if_neg (by omega), if_neg (by omega)]
              refine Ev.step (fun k => hj2 false ⟨fun h => absurd h Bool.false_ne_true, fun h => absurd h hbl⟩ k) ?_
              refine Ev.step (f := fun k => computusref06_one.l0 k s l (ints (acc ++ [UInt8.ofNat c.toNat])) false true false ((pos + 1 : Nat) : Int)) (fun k => ?_) (go _ hstep)
              rw [computusref06_one.j2, if_neg Bool.false_ne_true, if_pos ha2, hw, ints_app, hone]
theorem one_ev (s : ByteArray) (hz : s.size ≤ 100000) : Ev (fun k => computusref06_one.f k s) (fieldsR s) :=
  one_from s hz s.size 0 z0 (by omega) (fun h => by cases h) (Nat.le_refl _) (Nat.le_refl _)
end Go.Proofs.YtohhmnbcaflppaaDoor.LNum
