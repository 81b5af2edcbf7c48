/- The reference's second way, for any text: stage by stage. -/
import Derived.Test.YtecijnjnhdjokaaFLemW
namespace Go.Proofs.Ytecijnjnhdjokaa.FNum
open Go.RowKit Go.Proofs.Ytecijnjnhdjokaa.PClockF Go.Proofs.Ytecijnjnhdjokaa.Utf Go.Proofs.YtecijnjnhdjokaaW.PrintWords Go.Proofs.YtecijnjnhdjokaaW.PrintLast Go.Proofs.YtecijnjnhdjokaaW.PrintMore
set_option linter.unusedVariables false
set_option linter.unusedSimpArgs false
theorem val99 (d : List Int) (hd : Dig d) (hl : d.length ≤ 2) : 0 ≤ val 0 d ∧ val 0 d ≤ 99 := by
  have h := val_rng d 0 0 hd (by decide) (by decide)
  match hn : d.length, hl with
  | 0, _ => rw [hn] at h; have : p10 (0 + 0) = 1 := rfl; omega
  | 1, _ => rw [hn] at h; have : p10 (0 + 1) = 10 := rfl; omega
  | 2, _ => rw [hn] at h; have : p10 (0 + 2) = 100 := rfl; omega
/-- A row of digits that is too long: two of them and a digit behind. -/
theorem q3_bad (neg : Bool) (h m : Int) (d r : List Int) (hB : Byt (d ++ r)) (hz : (d ++ r).length ≤ 2000000) (hd : Dig d) (hn : NonD r) (hb : d.length ≠ 2 ∨ r ≠ []) : Ev (fun k => e3 k neg h m (strOfNums (d ++ r)) false) (0, 13) := by
  have go : ∀ (e r : List Int), Byt (e ++ r) → (e ++ r).length ≤ 2000000 → Dig e → e.length ≤ 2 → (e.length = 2 ∨ NonD r) → (e.length < 2 ∨ r ≠ []) → Ev (fun k => e3 k neg h m (strOfNums (e ++ r)) false) (0, 13) := by
    intro e r hB hz hd hl hr hb
    have hnn := num_ev 2 2 false (by decide) e r hB hd (by omega) (hr.imp (fun e => by omega) id) hz
    unfold e3
    refine Ev.bind hnn (Ev.congr (f := fun _ => some (0, 13)) (fun k => ?_) (Ev.now _))
    simp only
    by_cases h2 : e.length < 2
    · rw [decide_eq_true (show (e.length : Int) < 2 by omega), Bool.or_true, o_bad]
    · cases r with
      | nil => exact absurd rfl (hb.resolve_left h2)
      | cons b t => exact o_rest _ _ _ _ _ _ _
  by_cases hl : d.length ≤ 2
  · exact go d r hB hz hd hl (.inr hn) (hb.imp (fun g => by omega) id)
  · obtain ⟨e1, b, t, e, g1, g2, g3⟩ := cut d r 2 hd (by omega)
    rw [e] at hB hz ⊢
    exact go e1 (b :: t) hB hz g2 (by omega) (.inl g1) (.inr (by simp))
theorem q3_end (neg : Bool) (h m : Int) (d : List Int) (hB : Byt d) (hd : Dig d) (hl : d.length = 2) (hh : 0 ≤ h ∧ h ≤ 99) (hm : 0 ≤ m ∧ m ≤ 99) (r : Int × Int) (hr : fin (if neg = true then 45 else 43) (h * 3600 + m * 60 + val 0 d) (decide (59 < m) || decide (59 < val 0 d)) = some r) : Ev (fun k => e3 k neg h m (strOfNums d) false) r := by
  have hnn := num_ev 2 2 false (by decide) d [] (by simpa using hB) hd (by omega) (.inl (by omega)) (by simp; omega)
  rw [List.append_nil, decide_eq_false (show ¬ ((d.length : Int) < 2) by omega), Bool.or_false] at hnn
  unfold e3
  refine Ev.bind hnn (Ev.congr (f := fun _ => some r) (fun k => ?_) (Ev.now _))
  simp only
  rw [o_end neg h m _ hh hm (val99 d hd (by omega)), hr]
theorem q2_bad (neg : Bool) (h : Int) (d r : List Int) (hB : Byt (d ++ r)) (hz : (d ++ r).length ≤ 2000000) (hd : Dig d) (hn : NonD r) (hb : d.length ≠ 2 ∨ (r ≠ [] ∧ ∀ t, r ≠ 58 :: t)) : Ev (fun k => e2 k neg h (strOfNums (d ++ r)) false) (0, 13) := by
  have go : ∀ (e r : List Int), Byt (e ++ r) → (e ++ r).length ≤ 2000000 → Dig e → e.length ≤ 2 → (e.length = 2 ∨ NonD r) → (e.length < 2 ∨ (r ≠ [] ∧ ∀ t, r ≠ 58 :: t)) → Ev (fun k => e2 k neg h (strOfNums (e ++ r)) false) (0, 13) := by
    intro e r hB hz hd hl hr hb
    have hBr : Byt r := fun x hx => hB x (by simp [hx])
    have hnn := num_ev 2 2 false (by decide) e r hB hd (by omega) (hr.imp (fun e => by omega) id) hz
    unfold e2
    refine Ev.bind hnn ?_
    by_cases h2 : e.length < 2
    · rw [decide_eq_true (show (e.length : Int) < 2 by omega), Bool.or_true]
      obtain ⟨o, r2, hs, hB2, hl2⟩ := sign_all 58 (by decide) r true hBr
      simp only [hs, Option.bind_some]
      cases o with
      | true =>
        simp only [if_true]
        exact e3_bad _ _ _ _ hB2 (by rw [List.length_append] at hz; omega)
      | false =>
        refine Ev.congr (f := fun _ => some (0, 13)) (fun k => ?_) (Ev.now _)
        rw [if_neg Bool.false_ne_true]
        exact o_bad _ _ _ _ _
    · obtain ⟨g1, g2⟩ := hb.resolve_left h2
      have hs := sign_no 58 r (false || decide ((e.length : Int) < 2)) hBr g2
      simp only [hs, Option.bind_some]
      refine Ev.congr (f := fun _ => some (0, 13)) (fun k => ?_) (Ev.now _)
      rw [if_neg Bool.false_ne_true]
      cases r with
      | nil => exact absurd rfl g1
      | cons b t => exact o_rest _ _ _ _ _ _ _
  by_cases hl : d.length ≤ 2
  · exact go d r hB hz hd hl (.inr hn) (hb.imp (fun g => by omega) id)
  · obtain ⟨e1, b, t, e, g1, g2, g3⟩ := cut d r 2 hd (by omega)
    rw [e] at hB hz ⊢
    exact go e1 (b :: t) hB hz g2 (by omega) (.inl g1) (.inr ⟨by simp, fun u q => by injection q with q1 _; omega⟩)
theorem q2_end (neg : Bool) (h : Int) (d : List Int) (hB : Byt d) (hd : Dig d) (hl : d.length = 2) (hh : 0 ≤ h ∧ h ≤ 99) (r : Int × Int) (hr : fin (if neg = true then 45 else 43) (h * 3600 + val 0 d * 60) (decide (59 < val 0 d)) = some r) : Ev (fun k => e2 k neg h (strOfNums d) false) r := by
  have hnn := num_ev 2 2 false (by decide) d [] (by simpa using hB) hd (by omega) (.inl (by omega)) (by simp; omega)
  rw [List.append_nil, decide_eq_false (show ¬ ((d.length : Int) < 2) by omega), Bool.or_false] at hnn
  have hs := sign_no 58 [] false (fun x hx => by cases hx) (fun t e => by cases e)
  unfold e2
  refine Ev.bind hnn ?_
  simp only [hs, Option.bind_some]
  refine Ev.congr (f := fun _ => some r) (fun k => ?_) (Ev.now _)
  have hend := o_end neg h (val 0 d) 0 hh (val99 d hd (by omega)) (by decide)
  rw [if_neg Bool.false_ne_true, hend, Int.add_zero, show decide ((59 : Int) < 0) = false from rfl, Bool.or_false, hr]
theorem q2_ok (neg : Bool) (h : Int) (d t : List Int) (hB : Byt (d ++ 58 :: t)) (hz : (d ++ 58 :: t).length ≤ 2000000) (hd : Dig d) (hl : d.length = 2) (r : Int × Int) (hr : Ev (fun k => e3 k neg h (val 0 d) (strOfNums t) false) r) : Ev (fun k => e2 k neg h (strOfNums (d ++ 58 :: t)) false) r := by
  have hnn := num_ev 2 2 false (by decide) d (58 :: t) hB hd (by omega) (.inl (by omega)) hz
  rw [decide_eq_false (show ¬ ((d.length : Int) < 2) by omega), Bool.or_false] at hnn
  have hs := sign_yes 58 t false (by decide)
  unfold e2
  refine Ev.bind hnn ?_
  simp only [hs, Option.bind_some, if_true]
  exact hr
theorem q1_bad (neg : Bool) (d r : List Int) (hB : Byt (d ++ r)) (hz : (d ++ r).length ≤ 2000000) (hd : Dig d) (hn : NonD r) (hb : d.length = 0 ∨ 2 < d.length ∨ (r ≠ [] ∧ ∀ t, r ≠ 58 :: t)) : Ev (fun k => elseB k neg (strOfNums (d ++ r)) false) (0, 13) := by
  have go : ∀ (e r : List Int), Byt (e ++ r) → (e ++ r).length ≤ 2000000 → Dig e → e.length ≤ 2 → (e.length = 2 ∨ NonD r) → (e.length = 0 ∨ (r ≠ [] ∧ ∀ t, r ≠ 58 :: t)) → Ev (fun k => elseB k neg (strOfNums (e ++ r)) false) (0, 13) := by
    intro e r hB hz hd hl hr hb
    have hBr : Byt r := fun x hx => hB x (by simp [hx])
    have hnn := num_ev 1 2 false (by decide) e r hB hd (by omega) (hr.imp (fun e => by omega) id) hz
    simp only [else_eq]
    refine Ev.bind hnn ?_
    by_cases h2 : e.length = 0
    · rw [decide_eq_true (show (e.length : Int) < 1 by omega), Bool.or_true]
      obtain ⟨o, r2, hs, hB2, hl2⟩ := sign_all 58 (by decide) r true hBr
      simp only [hs, Option.bind_some]
      cases o with
      | true =>
        simp only [if_true]
        exact e2_bad _ _ _ hB2 (by rw [List.length_append] at hz; omega)
      | false =>
        refine Ev.congr (f := fun _ => some (0, 13)) (fun k => ?_) (Ev.now _)
        rw [if_neg Bool.false_ne_true]
        exact o_bad _ _ _ _ _
    · obtain ⟨g1, g2⟩ := hb.resolve_left h2
      have hs := sign_no 58 r (false || decide ((e.length : Int) < 1)) hBr g2
      simp only [hs, Option.bind_some]
      refine Ev.congr (f := fun _ => some (0, 13)) (fun k => ?_) (Ev.now _)
      rw [if_neg Bool.false_ne_true]
      cases r with
      | nil => exact absurd rfl g1
      | cons b t => exact o_rest _ _ _ _ _ _ _
  by_cases hl : d.length ≤ 2
  · exact go d r hB hz hd hl (.inr hn) (hb.imp id (fun g => g.resolve_left (by omega)))
  · obtain ⟨e1, b, t, e, g1, g2, g3⟩ := cut d r 2 hd (by omega)
    rw [e] at hB hz ⊢
    exact go e1 (b :: t) hB hz g2 (by omega) (.inl g1) (.inr ⟨by simp, fun u q => by injection q with q1 _; omega⟩)
theorem q1_end (neg : Bool) (d : List Int) (hB : Byt d) (hd : Dig d) (hl : d.length = 1 ∨ d.length = 2) (r : Int × Int) (hr : fin (if neg = true then 45 else 43) (val 0 d * 3600) false = some r) : Ev (fun k => elseB k neg (strOfNums d) false) r := by
  have hnn := num_ev 1 2 false (by decide) d [] (by simpa using hB) hd (by omega) (.inr (fun b t e => by cases e)) (by simp; omega)
  rw [List.append_nil, decide_eq_false (show ¬ ((d.length : Int) < 1) by omega), Bool.or_false] at hnn
  have hs := sign_no 58 [] false (fun x hx => by cases hx) (fun t e => by cases e)
  simp only [else_eq]
  refine Ev.bind hnn ?_
  simp only [hs, Option.bind_some]
  refine Ev.congr (f := fun _ => some r) (fun k => ?_) (Ev.now _)
  have hend := o_end neg (val 0 d) 0 0 (val99 d hd (by omega)) (by decide) (by decide)
  rw [if_neg Bool.false_ne_true, hend, Int.add_zero, Int.zero_mul, Int.add_zero, show (decide ((59 : Int) < 0) || decide ((59 : Int) < 0)) = false from rfl, hr]
theorem q1_ok (neg : Bool) (d t : List Int) (hB : Byt (d ++ 58 :: t)) (hz : (d ++ 58 :: t).length ≤ 2000000) (hd : Dig d) (hl : d.length = 1 ∨ d.length = 2) (r : Int × Int) (hr : Ev (fun k => e2 k neg (val 0 d) (strOfNums t) false) r) : Ev (fun k => elseB k neg (strOfNums (d ++ 58 :: t)) false) r := by
  have hnn := num_ev 1 2 false (by decide) d (58 :: t) hB hd (by omega) (.inr (fun b u e => by injection e with e1 _; omega)) hz
  rw [decide_eq_false (show ¬ ((d.length : Int) < 1) by omega), Bool.or_false] at hnn
  have hs := sign_yes 58 t false (by decide)
  simp only [else_eq]
  refine Ev.bind hnn ?_
  simp only [hs, Option.bind_some, if_true]
  exact hr
end Go.Proofs.Ytecijnjnhdjokaa.FNum
