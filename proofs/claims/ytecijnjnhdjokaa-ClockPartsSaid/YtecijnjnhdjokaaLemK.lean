/- What the clock's small functions answer: plain Lean over the printed functions. Conditions: none but the ranges that each names. -/
import Derived.Test.YtecijnjnhdjokaaUtf
import Derived.Test.YtecijnjnhdjokaaPClockx5
namespace Go.Proofs.Ytecijnjnhdjokaa.Lem
open Go.RowKit Go.Proofs.Ytecijnjnhdjokaa.PClock Go.Proofs.Ytecijnjnhdjokaa.Utf Go.Proofs.YtecijnjnhdjokaaW.PrintWords Go.Proofs.YtecijnjnhdjokaaW.PrintLast Go.Proofs.YtecijnjnhdjokaaW.PrintMore
set_option linter.unusedVariables false
set_option linter.unusedSimpArgs false

theorem w64 (x : Int) (h1 : -9223372036854775808 ≤ x) (h2 : x ≤ 9223372036854775807) : wrap64 x = x := by unfold wrap64; omega
theorem u64w (x : Int) : IntKind.u64.wrap x = x % 18446744073709551616 := by simp [IntKind.wrap, IntKind.bits, IntKind.signed]
theorem u64i (x : Int) (h1 : 0 ≤ x) (h2 : x < 18446744073709551616) : IntKind.u64.wrap x = x := by rw [u64w]; omega
theorem td (x m : Int) (h : 0 ≤ x) : Int.tdiv x m = x / m := Int.tdiv_eq_ediv_of_nonneg h
theorem tm (x m : Int) (h : 0 ≤ x) : Int.tmod x m = x % m := Int.tmod_eq_emod_of_nonneg h
theorem within_eq (a m : Int) : clock_within.f a m = some (decide (0 ≤ a ∧ a ≤ m)) := by
  unfold clock_within.f
  by_cases h : a ≥ 0
  · rw [if_pos h]
    simp [show 0 ≤ a from h]
  · rw [if_neg h]
    simp [show ¬ 0 ≤ a from h]
/-- The parts of a span that is 0 or above. -/
theorem parts_eq (a : Int) (h0 : 0 ≤ a) (h1 : a ≤ 9223372036854775808) : clock_parts.f a = some (a / 3600000000, a / 60000000 % 60, a / 1000000 % 60, a % 1000000) := by
  unfold clock_parts.f
  rw [td _ _ h0, td _ _ h0, td _ _ h0, tm _ _ h0, u64i (a / 3600000000) (by omega) (by omega), u64i (a / 60000000) (by omega) (by omega), u64i (a / 1000000) (by omega) (by omega), tm _ _ (by omega), tm _ _ (by omega), w64 _ (by omega) (by omega), w64 _ (by omega) (by omega), w64 _ (by omega) (by omega), w64 _ (by omega) (by omega)]
theorem refParts_eq (a : Int) (h0 : 0 ≤ a) (h1 : a ≤ 86400000000) : computusref03_Parts.f a = some (a / 3600000000, a / 60000000 % 60, a / 1000000 % 60, a % 1000000, 0) := by
  unfold computusref03_Parts.f
  rw [if_neg (by omega), if_neg (by omega), td a _ h0, w64 (a / 1000000) (by omega) (by omega), td _ _ (by omega), td _ _ (by omega), w64 (a / 1000000 / 60) (by omega) (by omega), w64 (a / 1000000 / 3600) (by omega) (by omega), tm _ _ (by omega), tm _ _ (by omega), tm _ _ h0]
  rw [show a / 1000000 / 60 = a / 60000000 by omega, show a / 1000000 / 3600 = a / 3600000000 by omega]
theorem known_ok : computuslaw03_known.f 60 = some true := by decide +kernel
theorem known_ev : Ev (fun k => computuslaw03_known.f k) true := Ev.of computuslaw03_known.mono known_ok
end Go.Proofs.Ytecijnjnhdjokaa.Lem
