/- Make and Parts beside the reference's. -/
import Derived.Test.YtecijnjnhdjokaaRLemU
import Derived.Test.YtecijnjnhdjokaaPClockRx6
namespace Go.Proofs.Ytecijnjnhdjokaa.RNum
open Go.RowKit Go.Proofs.Ytecijnjnhdjokaa.PClockR Go.Proofs.Ytecijnjnhdjokaa.Utf Go.Proofs.YtecijnjnhdjokaaW.PrintWords Go.Proofs.YtecijnjnhdjokaaW.PrintLast Go.Proofs.YtecijnjnhdjokaaW.PrintMore
set_option linter.unusedVariables false
set_option linter.unusedSimpArgs false
theorem make_out (a b c d : Int) (h : ¬ ((0 ≤ a ∧ a ≤ 24) ∧ (0 ≤ b ∧ b ≤ 59) ∧ (0 ≤ c ∧ c ≤ 59) ∧ (0 ≤ d ∧ d ≤ 999999))) : clock_Make.f 1 a b c d = some (0, 10) ∧ computusref03_Make.f 1 a b c d = some (0, 10) := by
  constructor
  · unfold clock_Make.f
    simp only [within_eq, Option.bind_some, clock_Make.j0]
    by_cases h1 : 0 ≤ a ∧ a ≤ 24
    · by_cases h2 : 0 ≤ b ∧ b ≤ 59
      · by_cases h3 : 0 ≤ c ∧ c ≤ 59
        · have h4 : ¬ (0 ≤ d ∧ d ≤ 999999) := fun h4 => h ⟨h1, h2, h3, h4⟩
          simp [h1, h2, h3, h4]
        · simp [h1, h2, h3]
      · simp [h1, h2]
    · simp [h1]
  · have e : computusref03_Make.j0 1 a b c d true = some (0, 10) := rfl
    unfold computusref03_Make.f
    by_cases h1 : a < 0
    · rw [if_pos h1]; exact e
    rw [if_neg h1]
    by_cases h2 : a > 24
    · rw [if_pos h2]; exact e
    rw [if_neg h2]
    by_cases h3 : b < 0
    · rw [if_pos h3]; exact e
    rw [if_neg h3]
    by_cases h4 : b > 59
    · rw [if_pos h4]; exact e
    rw [if_neg h4]
    by_cases h5 : c < 0
    · rw [if_pos h5]; exact e
    rw [if_neg h5]
    by_cases h6 : c > 59
    · rw [if_pos h6]; exact e
    rw [if_neg h6]
    by_cases h7 : d < 0
    · rw [if_pos h7]; exact e
    rw [if_neg h7, decide_eq_true (by omega)]
    exact e
theorem make_in (a b c d : Int) (h : (0 ≤ a ∧ a ≤ 24) ∧ (0 ≤ b ∧ b ≤ 59) ∧ (0 ≤ c ∧ c ≤ 59) ∧ (0 ≤ d ∧ d ≤ 999999)) : ∃ r : Int × Int, clock_Make.f 1 a b c d = some r ∧ computusref03_Make.f 1 a b c d = some r ∧ (r.2 = 0 → 0 ≤ r.1 ∧ r.1 ≤ 86400000000) := by
  obtain ⟨h1, h2, h3, h4⟩ := h
  have e1 : clock_Make.f 1 a b c d = clock_Make.j0 1 a b c d false := by
    unfold clock_Make.f
    simp only [within_eq, Option.bind_some, h1, h2, h3, h4, and_self, decide_true, if_true, Bool.not_true]
  have e2 : computusref03_Make.f 1 a b c d = computusref03_Make.j0 1 a b c d false := by
    unfold computusref03_Make.f
    rw [if_neg (by omega), if_neg (by omega), if_neg (by omega), if_neg (by omega), if_neg (by omega), if_neg (by omega), if_neg (by omega), decide_eq_false (by omega)]
  rw [e1, e2]
  simp only [clock_Make.j0, computusref03_Make.j0]
  rw [if_neg Bool.false_ne_true, if_neg Bool.false_ne_true]
  rw [w64 (a * 3600000000) (by omega) (by omega), w64 (b * 60000000) (by omega) (by omega), w64 (c * 1000000) (by omega) (by omega), w64 (a * 3600) (by omega) (by omega), w64 (b * 60) (by omega) (by omega)]
  rw [w64 (a * 3600000000 + b * 60000000) (by omega) (by omega), w64 (a * 3600000000 + b * 60000000 + c * 1000000) (by omega) (by omega), w64 (a * 3600000000 + b * 60000000 + c * 1000000 + d) (by omega) (by omega)]
  rw [w64 (a * 3600 + b * 60) (by omega) (by omega), w64 (a * 3600 + b * 60 + c) (by omega) (by omega), w64 ((a * 3600 + b * 60 + c) * 1000000) (by omega) (by omega), w64 ((a * 3600 + b * 60 + c) * 1000000 + d) (by omega) (by omega)]
  rw [show (a * 3600 + b * 60 + c) * 1000000 + d = a * 3600000000 + b * 60000000 + c * 1000000 + d by omega]
  by_cases hb : a * 3600000000 + b * 60000000 + c * 1000000 + d > 86400000000
  · rw [if_pos hb]; exact ⟨_, rfl, rfl, fun h => absurd h (by decide)⟩
  · rw [if_neg hb]; exact ⟨_, rfl, rfl, fun _ => ⟨by show 0 ≤ a * 3600000000 + b * 60000000 + c * 1000000 + d; omega, by show a * 3600000000 + b * 60000000 + c * 1000000 + d ≤ 86400000000; omega⟩⟩
theorem make_eq (a b c d : Int) : ∃ r : Int × Int, Ev (fun k => clock_Make.f k a b c d) r ∧ Ev (fun k => computusref03_Make.f k a b c d) r ∧ (r.2 = 0 → 0 ≤ r.1 ∧ r.1 ≤ 86400000000) := by
  by_cases h : (0 ≤ a ∧ a ≤ 24) ∧ (0 ≤ b ∧ b ≤ 59) ∧ (0 ≤ c ∧ c ≤ 59) ∧ (0 ≤ d ∧ d ≤ 999999)
  · obtain ⟨r, h1, h2, h3⟩ := make_in a b c d h
    exact ⟨r, Ev.of (clock_Make.mono a b c d) h1, Ev.of (computusref03_Make.mono a b c d) h2, h3⟩
  · obtain ⟨h1, h2⟩ := make_out a b c d h
    exact ⟨_, Ev.of (clock_Make.mono a b c d) h1, Ev.of (computusref03_Make.mono a b c d) h2, fun h => absurd h (by decide)⟩
end Go.Proofs.Ytecijnjnhdjokaa.RNum
