/- How the reference reads a time, stage by stage. -/
import Derived.Test.YtecijnjnhdjokaaRLemP
namespace Go.Proofs.Ytecijnjnhdjokaa.RNum
open Go.RowKit Go.Proofs.Ytecijnjnhdjokaa.PClockR Go.Proofs.Ytecijnjnhdjokaa.Utf Go.Proofs.YtecijnjnhdjokaaW.PrintWords Go.Proofs.YtecijnjnhdjokaaW.PrintLast Go.Proofs.YtecijnjnhdjokaaW.PrintMore
set_option linter.unusedVariables false
set_option linter.unusedSimpArgs false
theorem cut (ds r : List Int) (n : Nat) (hd : Dig ds) (h : n < ds.length) : ∃ d1 b t, ds ++ r = d1 ++ b :: t ∧ d1.length = n ∧ Dig d1 ∧ 48 ≤ b ∧ b ≤ 57 := by
  obtain ⟨b, t, et⟩ : ∃ b t, ds.drop n = b :: t := by
    cases hdr : ds.drop n with
    | nil => have := congrArg List.length hdr; rw [List.length_drop, List.length_nil] at this; omega
    | cons b t => exact ⟨b, t, rfl⟩
  have hb := hd b (List.mem_of_mem_drop (by rw [et]; simp))
  refine ⟨ds.take n, b, t ++ r, ?_, by rw [List.length_take]; omega, fun x hx => hd x (List.mem_of_mem_take hx), hb⟩
  rw [← List.cons_append, ← et, ← List.append_assoc, List.take_append_drop]
theorem num_all (least m : Nat) (bad : Bool) (hm : m ≤ 6) (l : List Int) (hB : Byt l) (hz : l.length ≤ 2000000) : ∃ ds r, l = ds ++ r ∧ Dig ds ∧ ds.length ≤ m ∧ Ev (fun k => computusref03_scan_num.f k (strOfNums l) bad least m) (val 0 ds, strOfNums r, bad || decide ((ds.length : Int) < least)) := by
  obtain ⟨ds, r, rfl, hd, hn⟩ := runs l
  by_cases h : ds.length ≤ m
  · exact ⟨ds, r, rfl, hd, h, num_ev _ _ bad (by omega) ds r hB hd (by omega) (.inr hn) hz⟩
  · obtain ⟨d1, b, t, e, h1, h2, _⟩ := cut ds r m hd (by omega)
    rw [e] at hB hz ⊢
    exact ⟨d1, b :: t, rfl, h2, by omega, num_ev _ _ bad (by omega) d1 (b :: t) hB h2 (by omega) (.inl (by omega)) hz⟩
theorem sign_all (c : Int) (hc : 0 ≤ c ∧ c < 256) (l : List Int) (bad : Bool) (hB : Byt l) : ∃ o r, computusref03_scan_sign.f (strOfNums l) bad c = some (o, strOfNums r, bad) ∧ Byt r ∧ r.length ≤ l.length := by
  by_cases h : ∃ t, l = c :: t
  · obtain ⟨t, rfl⟩ := h
    exact ⟨true, t, sign_yes c t bad hc, fun x hx => hB x (by simp [hx]), by simp⟩
  · exact ⟨false, l, sign_no c l bad hB (fun t e => h ⟨t, e⟩), hB, Nat.le_refl _⟩
theorem e_bad (k : Nat) (h m s u : Int) (x : ByteArray) : rdEnd k h m s u x true = some (0, 13) := by unfold rdEnd; rw [if_pos rfl]
theorem e_rest (k : Nat) (h m s u : Int) (b : Int) (t : List Int) (bad : Bool) : rdEnd k h m s u (strOfNums (b :: t)) bad = some (0, 13) := by
  unfold rdEnd
  rw [strOfNums_size, List.length_cons, if_pos (show 0 < t.length + 1 by omega)]
  split <;> rfl
theorem e_make (k : Nat) (h m s u : Int) : rdEnd k h m s u (strOfNums []) false = computusref03_Make.f k h m s u := by
  unfold rdEnd
  rw [if_neg Bool.false_ne_true, strOfNums_size, if_neg (by simp)]
theorem up_p10 : ∀ (z k : Nat) (v : Int), v < p10 k → up v z < p10 (k + z) := by
  intro z
  induction z with
  | zero => intro k v h; exact h
  | succ z ih =>
    intro k v h
    have hh := ih (k + 1) (v * 10) (by rw [p10]; omega)
    rw [up, show k + (z + 1) = k + 1 + z by omega]
    exact hh
theorem us_eq : ∀ (z d : Nat) (v j : Int), z < d → j + z = 6 → 0 ≤ j → 0 ≤ v → up v z ≤ 999999 → rdUs d v j = some (up v z) := by
  intro z
  induction z with
  | zero =>
    intro d v j hd hj h0 hv hu
    obtain ⟨d, rfl⟩ : ∃ e, d = e + 1 := ⟨d - 1, by omega⟩
    rw [rdUs, if_neg (by omega)]
    rfl
  | succ z ih =>
    intro d v j hd hj h0 hv hu
    obtain ⟨d, rfl⟩ : ∃ e, d = e + 1 := ⟨d - 1, by omega⟩
    rw [up] at hu ⊢
    have hlow := up_low z (v * 10) (by omega)
    rw [rdUs, if_pos (by omega), if_pos (by omega)]
    exact ih d (v * 10) (j + 1) (by omega) (by omega) (by omega) (by omega) hu
theorem us_ds (ds r : List Int) (hd : Dig ds) (hl : ds.length ≤ 6) : rdUs 10 (val 0 ds) (((strOfNums (ds ++ r)).size : Int) - (strOfNums r).size) = some (up (val 0 ds) (6 - ds.length)) ∧ 0 ≤ val 0 ds ∧ up (val 0 ds) (6 - ds.length) ≤ 999999 := by
  have hv := val_rng ds 0 0 hd (by decide) (by decide)
  have hu := up_p10 (6 - ds.length) (0 + ds.length) (val 0 ds) hv.2
  have h6 := p10_le6 (0 + ds.length + (6 - ds.length)) (by omega)
  refine ⟨us_eq _ _ _ _ (by omega) (by rw [strOfNums_size, strOfNums_size, List.length_append]; omega) (by rw [strOfNums_size, strOfNums_size, List.length_append]; omega) hv.1 (by omega), hv.1, by omega⟩
theorem frac_bad (h m s : Int) (o : Bool) (l : List Int) (hB : Byt l) (hz : l.length ≤ 2000000) : Ev (fun k => rdFrac k h m s (o, strOfNums l, true)) (0, 13) := by
  cases o with
  | false => exact Ev.congr (f := fun _ => some (0, 13)) (fun k => by unfold rdFrac; rw [if_neg Bool.false_ne_true, e_bad]) (Ev.now _)
  | true =>
    obtain ⟨ds, r, rfl, hd, hl, hn⟩ := num_all 1 6 true (by decide) l hB hz
    have hu := us_ds ds r hd hl
    unfold rdFrac
    simp only [if_true]
    refine Ev.bind hn (Ev.congr (f := fun _ => some (0, 13)) (fun k => ?_) (Ev.now _))
    simp only
    rw [if_pos ⟨by rw [strOfNums_size]; omega, by rw [strOfNums_size]; rw [List.length_append] at hz; omega⟩, hu.1, Option.bind_some, Bool.true_or, e_bad]
theorem sec_bad (h m : Int) (o : Bool) (l : List Int) (hB : Byt l) (hz : l.length ≤ 2000000) : Ev (fun k => rdSec k h m (o, strOfNums l, true)) (0, 13) := by
  cases o with
  | false => exact Ev.congr (f := fun _ => some (0, 13)) (fun k => by unfold rdSec; rw [if_neg Bool.false_ne_true, e_bad]) (Ev.now _)
  | true =>
    obtain ⟨ds, r, rfl, hd, hl, hn⟩ := num_all 2 2 true (by decide) l hB hz
    obtain ⟨o, r2, hs, hB2, hl2⟩ := sign_all 46 (by decide) r true (fun x hx => hB x (by simp [hx]))
    unfold rdSec
    simp only [if_true]
    refine Ev.bind hn ?_
    simp only [Bool.true_or, hs, Option.bind_some]
    exact frac_bad _ _ _ _ _ hB2 (by rw [List.length_append] at hz; omega)
/-- Behind the hours' colon. -/
def st2 (k : Nat) (h : Int) (s : ByteArray) (bad : Bool) : Option (Int × Int) := (computusref03_scan_num.f k s bad 2 2).bind fun p3 => (computusref03_scan_sign.f p3.2.1 p3.2.2 58).bind fun p4 => rdSec k h p3.1 p4
theorem st2_bad (h : Int) (l : List Int) (hB : Byt l) (hz : l.length ≤ 2000000) : Ev (fun k => st2 k h (strOfNums l) true) (0, 13) := by
  obtain ⟨ds, r, rfl, hd, hl, hn⟩ := num_all 2 2 true (by decide) l hB hz
  obtain ⟨o, r2, hs, hB2, hl2⟩ := sign_all 58 (by decide) r true (fun x hx => hB x (by simp [hx]))
  unfold st2
  refine Ev.bind hn ?_
  simp only [Bool.true_or, hs, Option.bind_some]
  exact sec_bad _ _ _ _ hB2 (by rw [List.length_append] at hz; omega)
theorem r1_bad (ds r : List Int) (hB : Byt (ds ++ r)) (hz : (ds ++ r).length ≤ 2000000) (hd : Dig ds) (hl : ds.length ≤ 2) (hr : ds.length = 2 ∨ NonD r) (h : ds.length = 0 ∨ ∀ t, r ≠ 58 :: t) : Ev (fun k => computusref03_Read.f k (strOfNums (ds ++ r))) (0, 13) := by
  have hBr : Byt r := fun x hx => hB x (by simp [hx])
  have hzr : r.length ≤ 2000000 := by rw [List.length_append] at hz; omega
  have hn := num_ev 1 2 false (by decide) ds r hB hd (by omega) (hr.imp (fun e => by omega) id) hz
  unfold computusref03_Read.f
  refine Ev.bind hn ?_
  by_cases h0 : ds.length = 0
  · rw [h0, show (false || decide (((0 : Nat) : Int) < 1)) = true from rfl]
    obtain ⟨o, r2, hs, hB2, hl2⟩ := sign_all 58 (by decide) r true hBr
    simp only [hs, Option.bind_some]
    rw [show (if o = true then true else true) = true by split <;> rfl]
    exact st2_bad _ r2 hB2 (by omega)
  · have hs := sign_no 58 r (false || decide ((ds.length : Int) < 1)) hBr (h.resolve_left h0)
    simp only [hs, Option.bind_some]
    rw [show (if false = true then (false || decide ((ds.length : Int) < 1)) else true) = true from if_neg Bool.false_ne_true]
    exact st2_bad _ r hBr hzr
theorem r1_ok (ds t : List Int) (hB : Byt (ds ++ 58 :: t)) (hz : (ds ++ 58 :: t).length ≤ 2000000) (hd : Dig ds) (hl : ds.length ≤ 2) (h0 : 0 < ds.length) (r : Int × Int) (hr : Ev (fun k => st2 k (val 0 ds) (strOfNums t) false) r) : Ev (fun k => computusref03_Read.f k (strOfNums (ds ++ 58 :: t))) r := by
  have hn := num_ev 1 2 false (by decide) ds (58 :: t) hB hd (by omega) (.inr (fun b u e => by injection e with e1 _; omega)) hz
  have hs := sign_yes 58 t false (by decide)
  rw [decide_eq_false (show ¬ ((ds.length : Int) < 1) by omega), Bool.or_false] at hn
  unfold computusref03_Read.f
  refine Ev.bind hn ?_
  simp only [hs, Option.bind_some, if_true]
  exact hr
theorem r2_bad (h : Int) (ds r : List Int) (hB : Byt (ds ++ r)) (hz : (ds ++ r).length ≤ 2000000) (hd : Dig ds) (hl : ds.length ≤ 2) (hr : ds.length = 2 ∨ NonD r) (hb : ds.length < 2 ∨ (r ≠ [] ∧ ∀ t, r ≠ 58 :: t)) : Ev (fun k => st2 k h (strOfNums (ds ++ r)) false) (0, 13) := by
  have hBr : Byt r := fun x hx => hB x (by simp [hx])
  have hzr : r.length ≤ 2000000 := by rw [List.length_append] at hz; omega
  have hn := num_ev 2 2 false (by decide) ds r hB hd (by omega) (hr.imp (fun e => by omega) id) hz
  unfold st2
  refine Ev.bind hn ?_
  by_cases h2 : ds.length < 2
  · rw [decide_eq_true (show (ds.length : Int) < 2 by omega), Bool.or_true]
    obtain ⟨o, r2, hs, hB2, hl2⟩ := sign_all 58 (by decide) r true hBr
    simp only [hs, Option.bind_some]
    exact sec_bad _ _ _ _ hB2 (by omega)
  · obtain ⟨g1, g2⟩ := hb.resolve_left h2
    have hs := sign_no 58 r (false || decide ((ds.length : Int) < 2)) hBr g2
    simp only [hs, Option.bind_some]
    refine Ev.congr (f := fun _ => some (0, 13)) (fun k => ?_) (Ev.now _)
    unfold rdSec
    rw [if_neg Bool.false_ne_true]
    cases r with
    | nil => exact absurd rfl g1
    | cons b t => exact e_rest _ _ _ _ _ _ _ _
theorem r2_end (h : Int) (ds : List Int) (hB : Byt ds) (hd : Dig ds) (hl : ds.length = 2) (r : Int × Int) (hr : Ev (fun k => computusref03_Make.f k h (val 0 ds) 0 0) r) : Ev (fun k => st2 k h (strOfNums ds) false) r := by
  have hn := num_ev 2 2 false (by decide) ds [] (by simpa using hB) hd (by omega) (.inl (by omega)) (by simp; omega)
  rw [List.append_nil, decide_eq_false (show ¬ ((ds.length : Int) < 2) by omega), Bool.or_false] at hn
  have hs := sign_no 58 [] false (fun x hx => by cases hx) (fun t e => by cases e)
  unfold st2
  refine Ev.bind hn ?_
  simp only [hs, Option.bind_some]
  refine Ev.congr (fun k => ?_) hr
  unfold rdSec
  rw [if_neg Bool.false_ne_true]
  exact e_make _ _ _ _ _
theorem r2_ok (h : Int) (ds t : List Int) (hB : Byt (ds ++ 58 :: t)) (hz : (ds ++ 58 :: t).length ≤ 2000000) (hd : Dig ds) (hl : ds.length = 2) (r : Int × Int) (hr : Ev (fun k => rdSec k h (val 0 ds) (true, strOfNums t, false)) r) : Ev (fun k => st2 k h (strOfNums (ds ++ 58 :: t)) false) r := by
  have hn := num_ev 2 2 false (by decide) ds (58 :: t) hB hd (by omega) (.inl (by omega)) hz
  rw [decide_eq_false (show ¬ ((ds.length : Int) < 2) by omega), Bool.or_false] at hn
  have hs := sign_yes 58 t false (by decide)
  unfold st2
  refine Ev.bind hn ?_
  simp only [hs, Option.bind_some]
  exact hr
theorem r3_bad (h m : Int) (ds r : List Int) (hB : Byt (ds ++ r)) (hz : (ds ++ r).length ≤ 2000000) (hd : Dig ds) (hl : ds.length ≤ 2) (hr : ds.length = 2 ∨ NonD r) (hb : ds.length < 2 ∨ (r ≠ [] ∧ ∀ t, r ≠ 46 :: t)) : Ev (fun k => rdSec k h m (true, strOfNums (ds ++ r), false)) (0, 13) := by
  have hBr : Byt r := fun x hx => hB x (by simp [hx])
  have hzr : r.length ≤ 2000000 := by rw [List.length_append] at hz; omega
  have hn := num_ev 2 2 false (by decide) ds r hB hd (by omega) (hr.imp (fun e => by omega) id) hz
  unfold rdSec
  simp only [if_true]
  refine Ev.bind hn ?_
  by_cases h2 : ds.length < 2
  · rw [decide_eq_true (show (ds.length : Int) < 2 by omega), Bool.or_true]
    obtain ⟨o, r2, hs, hB2, hl2⟩ := sign_all 46 (by decide) r true hBr
    simp only [hs, Option.bind_some]
    exact frac_bad _ _ _ _ _ hB2 (by omega)
  · obtain ⟨g1, g2⟩ := hb.resolve_left h2
    have hs := sign_no 46 r (false || decide ((ds.length : Int) < 2)) hBr g2
    simp only [hs, Option.bind_some]
    refine Ev.congr (f := fun _ => some (0, 13)) (fun k => ?_) (Ev.now _)
    unfold rdFrac
    rw [if_neg Bool.false_ne_true]
    cases r with
    | nil => exact absurd rfl g1
    | cons b t => exact e_rest _ _ _ _ _ _ _ _
theorem r3_end (h m : Int) (ds : List Int) (hB : Byt ds) (hd : Dig ds) (hl : ds.length = 2) (r : Int × Int) (hr : Ev (fun k => computusref03_Make.f k h m (val 0 ds) 0) r) : Ev (fun k => rdSec k h m (true, strOfNums ds, false)) r := by
  have hn := num_ev 2 2 false (by decide) ds [] (by simpa using hB) hd (by omega) (.inl (by omega)) (by simp; omega)
  rw [List.append_nil, decide_eq_false (show ¬ ((ds.length : Int) < 2) by omega), Bool.or_false] at hn
  have hs := sign_no 46 [] false (fun x hx => by cases hx) (fun t e => by cases e)
  unfold rdSec
  simp only [if_true]
  refine Ev.bind hn ?_
  simp only [hs, Option.bind_some]
  refine Ev.congr (fun k => ?_) hr
  unfold rdFrac
  rw [if_neg Bool.false_ne_true]
  exact e_make _ _ _ _ _
theorem r3_ok (h m : Int) (ds t : List Int) (hB : Byt (ds ++ 46 :: t)) (hz : (ds ++ 46 :: t).length ≤ 2000000) (hd : Dig ds) (hl : ds.length = 2) (r : Int × Int) (hr : Ev (fun k => rdFrac k h m (val 0 ds) (true, strOfNums t, false)) r) : Ev (fun k => rdSec k h m (true, strOfNums (ds ++ 46 :: t), false)) r := by
  have hn := num_ev 2 2 false (by decide) ds (46 :: t) hB hd (by omega) (.inl (by omega)) hz
  rw [decide_eq_false (show ¬ ((ds.length : Int) < 2) by omega), Bool.or_false] at hn
  have hs := sign_yes 46 t false (by decide)
  unfold rdSec
  simp only [if_true]
  refine Ev.bind hn ?_
  simp only [hs, Option.bind_some]
  exact hr
theorem r4_bad (h m s : Int) (ds r : List Int) (hB : Byt (ds ++ r)) (hz : (ds ++ r).length ≤ 2000000) (hd : Dig ds) (hl : ds.length ≤ 6) (hr : ds.length = 6 ∨ NonD r) (hb : ds.length = 0 ∨ r ≠ []) : Ev (fun k => rdFrac k h m s (true, strOfNums (ds ++ r), false)) (0, 13) := by
  have hn := num_ev 1 6 false (by decide) ds r hB hd (by omega) (hr.imp (fun e => by omega) id) hz
  have hu := us_ds ds r hd hl
  unfold rdFrac
  simp only [if_true]
  refine Ev.bind hn (Ev.congr (f := fun _ => some (0, 13)) (fun k => ?_) (Ev.now _))
  simp only
  rw [if_pos ⟨by rw [strOfNums_size]; omega, by rw [strOfNums_size]; rw [List.length_append] at hz; omega⟩, hu.1, Option.bind_some]
  by_cases h0 : ds.length = 0
  · rw [h0, show (false || decide (((0 : Nat) : Int) < 1)) = true from rfl, e_bad]
  · cases r with
    | nil => exact absurd rfl (hb.resolve_left h0)
    | cons b t => exact e_rest _ _ _ _ _ _ _ _
theorem r4_end (h m s : Int) (ds : List Int) (hB : Byt ds) (hd : Dig ds) (hl : ds.length ≤ 6) (h0 : 0 < ds.length) (r : Int × Int) (hr : Ev (fun k => computusref03_Make.f k h m s (up (val 0 ds) (6 - ds.length))) r) : Ev (fun k => rdFrac k h m s (true, strOfNums ds, false)) r := by
  have hn := num_ev 1 6 false (by decide) ds [] (by simpa using hB) hd (by omega) (.inr (fun b t e => by cases e)) (by simp; omega)
  have hu := us_ds ds [] hd hl
  rw [List.append_nil] at hu
  rw [List.append_nil, decide_eq_false (show ¬ ((ds.length : Int) < 1) by omega), Bool.or_false] at hn
  unfold rdFrac
  simp only [if_true]
  refine Ev.bind hn (Ev.congr (fun k => ?_) hr)
  simp only
  rw [if_pos ⟨by rw [strOfNums_size]; omega, by rw [strOfNums_size]; simp⟩, hu.1, Option.bind_some]
  exact e_make _ _ _ _ _
end Go.Proofs.Ytecijnjnhdjokaa.RNum
