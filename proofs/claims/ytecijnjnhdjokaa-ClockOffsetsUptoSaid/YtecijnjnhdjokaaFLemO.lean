/- An offset as a text, beside the reference's. -/
import Derived.Test.YtecijnjnhdjokaaFLemQ
namespace Go.Proofs.Ytecijnjnhdjokaa.FNum
open Go.RowKit Go.Proofs.Ytecijnjnhdjokaa.PClockF Go.Proofs.Ytecijnjnhdjokaa.Utf Go.Proofs.YtecijnjnhdjokaaW.PrintWords Go.Proofs.YtecijnjnhdjokaaW.PrintLast Go.Proofs.YtecijnjnhdjokaaW.PrintMore
set_option linter.unusedVariables false
set_option linter.unusedSimpArgs false
def two2 (n : Int) : List Int := [48 + n / 10 % 10, 48 + n % 10]
theorem two_both (n : Int) (h0 : 0 ≤ n) (h1 : n < 100) : clock_Two.f n = some (strOfNums (two2 n)) ∧ Ev (fun k => computusref03_Two.f k n) (strOfNums (two2 n)) := by
  have e : clock_Two.f n = some (strOfNums (two2 n)) := by
    rw [two_pos n h0 (by omega), two_digits _ (by omega)]
    obtain ⟨k, rfl⟩ : ∃ k : Nat, n = (k : Int) := ⟨n.toNat, by omega⟩
    rw [Int.toNat_natCast, Int.natCast_ediv]
    rfl
  obtain ⟨l, _, a, b⟩ := two_eq n (by omega) (by omega)
  have e2 := Option.some.inj (e.symm.trans a)
  rw [e2]
  exact ⟨a, b⟩
/-- An offset's text: the sign, hours, and what is not nought. -/
def offL (c n : Int) : List Int :=
  if n % 60 = 0 then (if n % 3600 = 0 then c :: two2 (n / 3600) else c :: two2 (n / 3600) ++ [58] ++ two2 (n / 60 % 60))
  else c :: two2 (n / 3600) ++ [58] ++ two2 (n / 60 % 60) ++ [58] ++ two2 (n % 60)
theorem e58 : (⟨#[58]⟩ : ByteArray) = strOfNums [58] := rfl
theorem mx_abs (s : Int) (h : -57599 ≤ s ∧ s ≤ 57599) : mx s (wrap64 (-s)) = s.natAbs := by
  rw [w64 _ (by omega) (by omega)]
  unfold mx
  split <;> omega
theorem off_clock (s c : Int) (h : -57599 ≤ s ∧ s ≤ 57599) : Ev (fun k => clock_Offset.j0 k s (strOfNums [c])) (strOfNums (offL c s.natAbs), 0) := by
  refine Ev.step (f := fun k => clock_Offset.j1 k s (strOfNums [c]) false) (fun k => by rw [clock_Offset.j0, if_neg (by omega), decide_eq_false (by omega)]) ?_
  refine Ev.step (f := fun _ => some (strOfNums (offL c s.natAbs), 0)) (fun k => ?_) (Ev.now _)
  rw [clock_Offset.j1, if_neg Bool.false_ne_true, mx_abs s h]
  have hn : 0 ≤ (s.natAbs : Int) ∧ (s.natAbs : Int) ≤ 57599 := by omega
  generalize (s.natAbs : Int) = n at hn
  rw [td n 3600 hn.1, td n 60 hn.1, tm n 60 hn.1, tm n 3600 hn.1, w64 (n / 3600) (by omega) (by omega), w64 (n / 60) (by omega) (by omega), tm (n / 60) 60 (by omega)]
  rw [(two_both (n / 3600) (by omega) (by omega)).1, (two_both (n / 60 % 60) (by omega) (by omega)).1, (two_both (n % 60) (by omega) (by omega)).1]
  simp only [Option.bind_some, e58, ← nums_app, strOfNums_size]
  unfold offL
  by_cases h1 : n % 60 = 0
  · by_cases h2 : n % 3600 = 0
    · rw [if_pos (by simp [two2]), if_pos h1, if_pos h2, if_pos h1, if_pos h2]
      rfl
    · rw [if_pos (by simp [two2]), if_pos h1, if_neg h2, if_pos (by simp [two2]), if_pos (by simp [two2]), if_pos h1, if_neg h2]
      rfl
  · rw [if_pos (by simp [two2]), if_neg h1, if_pos (by simp [two2]), if_pos (by simp [two2]), if_pos (by simp [two2]), if_pos (by simp [two2]), if_neg h1]
    rfl
theorem off_ref (c n : Int) (hn : 0 ≤ n ∧ n ≤ 57599) : Ev (fun k => computusref03_Offset.j1 k n (strOfNums [c])) (strOfNums (offL c n), 0) := by
  have t1 := (two_both (n / 3600) (by omega) (by omega)).2
  have t2 := (two_both (n / 60 % 60) (by omega) (by omega)).2
  have t3 := (two_both (n % 60) (by omega) (by omega)).2
  refine Ev.step (fun k => by rw [computusref03_Offset.j1, td n 3600 hn.1, td n 60 hn.1, tm n 60 hn.1, tm n 3600 hn.1, w64 (n / 3600) (by omega) (by omega), w64 (n / 60) (by omega) (by omega), tm (n / 60) 60 (by omega)]) ?_
  refine Ev.bind t1 ?_
  simp only [e58, ← nums_app, strOfNums_size]
  refine Ev.congr (fun k => if_pos (by simp [two2])) ?_
  unfold offL
  by_cases h2 : n % 3600 = 0
  · refine Ev.congr (fun k => if_pos h2) (Ev.congr (fun k => if_pos (by omega)) (Ev.congr (fun k => ?_) (Ev.now _)))
    rw [if_pos (by omega), if_pos h2]
    rfl
  · refine Ev.congr (fun k => if_neg h2) (Ev.congr (fun k => if_pos (by simp [two2])) (Ev.bind t2 ?_))
    simp only [e58, ← nums_app, strOfNums_size]
    refine Ev.congr (fun k => if_pos (by simp [two2])) ?_
    by_cases h1 : n % 60 = 0
    · refine Ev.congr (fun k => if_pos h1) (Ev.congr (fun k => ?_) (Ev.now _))
      rw [if_pos h1, if_neg h2]
      rfl
    · refine Ev.congr (fun k => if_neg h1) (Ev.congr (fun k => if_pos (by simp [two2])) (Ev.bind t3 ?_))
      simp only [e58, ← nums_app, strOfNums_size]
      refine Ev.congr (fun k => if_pos (by simp [two2])) (Ev.congr (fun k => ?_) (Ev.now _))
      rw [if_neg h1]
      rfl
/-- The sign of an offset. -/
def sgn (s : Int) : Int := if s < 0 then 45 else 43
theorem offset_in (s : Int) (h : -57599 ≤ s ∧ s ≤ 57599) : Ev (fun k => clock_Offset.f k s) (strOfNums (offL (sgn s) s.natAbs), 0) ∧ Ev (fun k => computusref03_Offset.f k s) (strOfNums (offL (sgn s) s.natAbs), 0) := by
  constructor
  · unfold clock_Offset.f sgn
    by_cases hs : s < 0
    · simp only [hs, if_true]
      exact off_clock s 45 h
    · simp only [hs, if_false]
      exact off_clock s 43 h
  · unfold computusref03_Offset.f sgn
    refine Ev.congr (fun k => by rw [if_neg (by omega), decide_eq_false (by omega)]) (Ev.step (fun k => by rw [computusref03_Offset.j0, if_neg Bool.false_ne_true]) ?_)
    by_cases hs : s < 0
    · refine Ev.congr (fun k => if_pos hs) ?_
      rw [w64 _ (by omega) (by omega), if_pos hs, show ((s.natAbs : Nat) : Int) = -s by omega]
      exact off_ref 45 (-s) (by omega)
    · refine Ev.congr (fun k => if_neg hs) ?_
      rw [if_neg hs, show ((s.natAbs : Nat) : Int) = s by omega]
      exact off_ref 43 s (by omega)
theorem offset_out (s : Int) (h : ¬ (-57599 ≤ s ∧ s ≤ 57599)) : Ev (fun k => clock_Offset.f k s) (⟨#[]⟩, 10) ∧ Ev (fun k => computusref03_Offset.f k s) (⟨#[]⟩, 10) := by
  constructor
  · have hj : ∀ x, Ev (fun k => clock_Offset.j0 k s x) (⟨#[]⟩, 10) := fun x => by
      refine Ev.step (f := fun k => clock_Offset.j1 k s x true) (fun k => ?_) (Ev.step (f := fun _ => some (⟨#[]⟩, 10)) (fun k => by rw [clock_Offset.j1, if_pos rfl]) (Ev.now _))
      rw [clock_Offset.j0]
      by_cases hs : s < -57599
      · rw [if_pos hs]
      · rw [if_neg hs, decide_eq_true (by omega)]
    unfold clock_Offset.f
    by_cases hs : s < 0
    · simp only [hs, if_true]; exact hj _
    · simp only [hs, if_false]; exact hj _
  · refine Ev.congr (f := fun k => computusref03_Offset.j0 k s true) (fun k => ?_) (Ev.step (f := fun _ => some (⟨#[]⟩, 10)) (fun k => by rw [computusref03_Offset.j0, if_pos rfl]) (Ev.now _))
    unfold computusref03_Offset.f
    by_cases hs : s < -57599
    · rw [if_pos hs]
    · rw [if_neg hs, decide_eq_true (by omega)]
end Go.Proofs.Ytecijnjnhdjokaa.FNum
