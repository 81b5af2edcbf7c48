/- The clock's and the reference's readings of an offset, side by side (not four digits). -/
import Derived.Test.YtecijnjnhdjokaaFLemY
namespace Go.Proofs.Ytecijnjnhdjokaa.FNum
open Go.RowKit Go.Proofs.Ytecijnjnhdjokaa.PClockF Go.Proofs.Ytecijnjnhdjokaa.Utf Go.Proofs.YtecijnjnhdjokaaW.PrintWords Go.Proofs.YtecijnjnhdjokaaW.PrintLast Go.Proofs.YtecijnjnhdjokaaW.PrintMore
set_option linter.unusedVariables false
set_option linter.unusedSimpArgs false
def Grows (L : List S45) : Prop := L ≠ [] ∧ 0 ≤ (lastG L).f1 ∧ (lastG L).f1 ≤ 6 ∧ 0 ≤ (lastG L).f0 ∧ (lastG L).f0 < p10 (lastG L).f1.toNat
theorem grows_zero (L : List S45) : Grows (L ++ [⟨0, 0⟩]) := by
  have h := lastG_app L ⟨0, 0⟩
  exact ⟨by simp, by rw [h]; decide, by rw [h]; decide, by rw [h]; decide, by rw [h]; decide⟩
/-- Signs that no more signs make right. -/
def Mis (s : List Int) : Prop := ∀ m, ¬ ((strOfNums (s ++ m)).toList = ([] : List UInt8) ∨ (strOfNums (s ++ m)).toList = ([58] : List UInt8) ∨ (strOfNums (s ++ m)).toList = ([58, 58] : List UInt8))
theorem d_mis (x : ByteArray) (c : Int) (rest : List Int) (L : List S45) (s : List Int) (hx : clock_groups.f x = grL rest L (strOfNums s)) (hg : Grows L) (h5 : L.length + rest.length ≤ 2000000) (h6 : s.length + rest.length ≤ 2000000) (hm : Mis s) : (clock_groups.f x).bind (K c) = some (0, 13) := by
  obtain ⟨L', s', ok, e, g⟩ := grL_all rest L s hg.1 hg.2.1 hg.2.2.1 hg.2.2.2.1 hg.2.2.2.2 h5 h6
  rw [hx, e, Option.bind_some]
  cases ok with
  | false => exact k_fail _ _ _
  | true =>
    obtain ⟨m, rfl, hl, _⟩ := g rfl
    have hL := List.length_pos_iff.2 hg.1
    rw [k_mid c L' _ (by omega) (fun q => hm m (.inl q.1)), m_sign c L' _ (hm m)]
theorem d_one (x : ByteArray) (c : Int) (rest : List Int) (g0 : S45) (hx : clock_groups.f x = grL rest [g0, ⟨0, 0⟩] (strOfNums [58])) (h5 : rest.length ≤ 1900000) (h : ¬ (g0.f1 = 1 ∨ g0.f1 = 2)) : (clock_groups.f x).bind (K c) = some (0, 13) := by
  have hg := grows_zero [g0]
  obtain ⟨L', s', ok, e, g⟩ := grL_all rest [g0, ⟨0, 0⟩] [58] hg.1 hg.2.1 hg.2.2.1 hg.2.2.2.1 hg.2.2.2.2 (by simp; omega) (by simp; omega)
  rw [hx, e, Option.bind_some]
  cases ok with
  | false => exact k_fail _ _ _
  | true =>
    obtain ⟨m, rfl, h2, h3⟩ := g rfl
    have h30 := h3 0 (by simp)
    have e0 : rd_T45 L' 0 = g0 := by
      unfold rd_T45
      rw [Int.toNat_zero, List.getD_eq_getElem?_getD, h30]
      rfl
    have hL : 0 < L'.length := by rw [h2]; simp; omega
    rw [k_mid c L' _ hL (by rw [tl]; simp), m_one c L' _ hL (by rw [e0]; exact h)]
theorem d_two (x : ByteArray) (c : Int) (rest : List Int) (g0 g1 : S45) (hx : clock_groups.f x = grL rest [g0, g1, ⟨0, 0⟩] (strOfNums [58, 58])) (h5 : rest.length ≤ 1500000) (h0 : 0 ≤ g0.f0 ∧ g0.f0 ≤ 999999) (h : g1.f1 ≠ 2) : (clock_groups.f x).bind (K c) = some (0, 13) := by
  have hg := grows_zero [g0, g1]
  obtain ⟨L', s', ok, e, g⟩ := grL_all rest [g0, g1, ⟨0, 0⟩] [58, 58] hg.1 hg.2.1 hg.2.2.1 hg.2.2.2.1 hg.2.2.2.2 (by simp; omega) (by simp; omega)
  rw [hx, e, Option.bind_some]
  cases ok with
  | false => exact k_fail _ _ _
  | true =>
    obtain ⟨m, rfl, h2, h3⟩ := g rfl
    have h30 := h3 0 (by simp)
    have h31 := h3 1 (by simp)
    have hL : 0 < L'.length := by rw [h2]; simp; omega
    rw [k_mid c L' _ hL (by rw [tl]; simp)]
    cases m with
    | cons b u => exact m_sign c L' _ (by rw [tl]; simp)
    | nil =>
      match L', h30, h31, h2 with
      | a0 :: a1 :: u, h30, h31, h2 =>
        obtain rfl : a0 = g0 := Option.some.inj h30
        obtain rfl : a1 = g1 := Option.some.inj h31
        by_cases ho : a0.f1 = 1 ∨ a0.f1 = 2
        · rw [m_end c (a0 :: a1 :: u) (strOfNums ([58, 58] ++ [])) (.inr (.inr (by rw [tl]; rfl))) (by simp) ho]
          exact end2_bad c a0.f0 a0.f1 a1.f0 a1.f1 h0 h u (by simp at h2; omega)
        · exact m_one c (a0 :: a1 :: u) _ (by simp) ho
end Go.Proofs.Ytecijnjnhdjokaa.FNum
