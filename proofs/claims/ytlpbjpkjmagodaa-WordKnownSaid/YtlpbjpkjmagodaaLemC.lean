/- The reference's Split, from a place on: plain Lean over the printed functions. Conditions: none but a text's own. -/
import Derived.Test.YtlpbjpkjmagodaaLemB
namespace Go.Proofs.Ytlpbjpkjmagodaa.Lem
open Go.RowKit Go.Proofs.Ytlpbjpkjmagodaa.PWord Go.Proofs.Ytlpbjpkjmagodaa.Utf Go.Proofs.YtlpbjpkjmagodaaW.PrintWords Go.Proofs.YtlpbjpkjmagodaaW.PrintLast Go.Proofs.YtlpbjpkjmagodaaW.PrintMore
set_option linter.unusedVariables false
set_option linter.unusedSimpArgs false

theorem kd_low (s : ByteArray) (p : Nat) (h : p < s.size) (h0 : bt s p < 128) : kd s p = kindR (bt s p) ∧ nx s p = p + 1 := by
  have hb : ¬ Bad s p := fun x => by have := x.1; omega
  rcases tells s p h with ⟨h1, h2, h3⟩ | ⟨h1, h2, h3⟩ | ⟨h1, h2, h3⟩ | ⟨h1, h2, h3⟩ | ⟨h1, h2, h3⟩
  · unfold kd nx; rw [h2, h3]; exact ⟨rfl, rfl⟩
  · have := h1.2.1; omega
  · have := h1.2.1; omega
  · have := h1.2.1; omega
  · exact absurd h1 hb
theorem kd_high (s : ByteArray) (p : Nat) (h : p < s.size) (h0 : 128 ≤ bt s p) : kd s p = 2 := by
  have e : bt s p = ((s[p]'h).toNat : Int) := bt_get s p h
  have := (decode_high s p h (by omega)).1
  unfold kd kindR
  rw [if_neg (by omega), if_pos (by omega)]
theorem kindR_eq4 (c : Int) (h0 : 0 ≤ c) : kindR c = 4 ↔ (c < 32 ∧ c ≠ 9 ∧ c ≠ 10 ∧ c ≠ 13) ∨ c = 127 := by
  unfold kindR
  repeat' split
  all_goals omega
theorem kindR_eq0 (c : Int) : kindR c = 0 ↔ (c = 32 ∨ c = 9 ∨ c = 10 ∨ c = 13) := by
  unfold kindR
  repeat' split
  all_goals omega
theorem kindR_eq1 (c : Int) : kindR c = 1 ↔ (48 ≤ c ∧ c ≤ 57) := by
  unfold kindR
  repeat' split
  all_goals omega
theorem kindR_eq2 (c : Int) : kindR c = 2 ↔ (c = 95 ∨ 127 < c ∨ (65 ≤ c ∧ c ≤ 90) ∨ (97 ≤ c ∧ c ≤ 122)) := by
  unfold kindR
  repeat' split
  all_goals omega
theorem blank_eq (c : Int) : computusref05_blank.f c = some (decide (c = 32 ∨ c = 9 ∨ c = 10 ∨ c = 13)) := by
  unfold computusref05_blank.f
  repeat' split
  all_goals (congr 1; first | (symm; apply decide_eq_true; omega) | (rw [Bool.eq_iff_iff]; simp; omega))
theorem digit_eq (c : Int) : computusref05_digit.f c = some (decide (48 ≤ c ∧ c ≤ 57)) := by
  unfold computusref05_digit.f
  repeat' split
  all_goals (congr 1; rw [Bool.eq_iff_iff]; simp; omega)
theorem letter_eq (c : Int) : computusref05_letter.f c = some (decide (c = 95 ∨ 127 < c ∨ (65 ≤ c ∧ c ≤ 90) ∨ (97 ≤ c ∧ c ≤ 122))) := by
  unfold computusref05_letter.f
  repeat' split
  all_goals (congr 1; rw [Bool.eq_iff_iff]; simp; omega)
/-- Where all is right, the reference's first pass goes through. -/
theorem ref_ok (s : ByteArray) (hs : s.size ≤ 2048) {p : Nat} (h : p < s.size) (hb : ¬ Bad s p) (hk : kd s p ≠ 4) (k : Nat) (hk2 : 13 ≤ k) :
    computusref05_Split.l0 (k + 1) s (p : Int) = computusref05_Split.l0 k s (nx s p : Nat) := by
  have hw := decode_width s p h
  have he := nx_le s p h
  simp only [computusref05_Split.l0]
  rw [if_pos (by omega), (long_eq s p hs h k hk2).2 hb]
  simp only [Option.bind_some]
  rw [if_neg (by omega), if_pos (by omega)]
  have e : wrap64 ((p : Int) + ((Utf8.decode s p).2 : Nat)) = ((nx s p : Nat) : Int) := by unfold nx at he ⊢; rw [wr _ (by omega) (by omega)]; omega
  rw [e, blank_eq]
  simp only [Option.bind_some]
  have hr := bt_range s (p : Int)
  by_cases h0 : bt s p < 128
  · have h1 := (kd_low s p h h0).1
    rw [h1, Ne, kindR_eq4 _ hr.1] at hk
    by_cases h2 : bt s p < 32
    · rw [if_pos h2, if_pos (decide_eq_true (by omega)), if_neg (by omega)]
    · rw [if_neg h2, if_neg (by omega)]
  · rw [if_neg (by omega), if_neg (by omega)]
theorem ref_bad (s : ByteArray) (hs : s.size ≤ 2048) {p q : Nat} (h : BadAt s p q) : Ev (fun k => computusref05_Split.l0 k s (p : Int)) ([], (q : Int), 21) := by
  induction h with
  | here p h hb =>
    refine ⟨14, fun k hk => ?_⟩
    obtain ⟨k, rfl⟩ : ∃ m, k = m + 1 := ⟨k - 1, by omega⟩
    simp only [computusref05_Split.l0]
    rw [if_pos (by omega)]
    have hr := bt_range s (p : Int)
    by_cases hB : Bad s p
    · rw [(long_eq s p hs h k (by omega)).1 hB]
      simp only [Option.bind_some]
      rw [if_pos trivial]
    · rw [(long_eq s p hs h k (by omega)).2 hB]
      have hw := decode_width s p h
      simp only [Option.bind_some]
      rw [if_neg (by omega), if_pos (by omega), blank_eq]
      simp only [Option.bind_some]
      have h4 := hb.resolve_left hB
      by_cases h0 : bt s p < 128
      · rw [(kd_low s p h h0).1, kindR_eq4 _ hr.1] at h4
        by_cases h2 : bt s p < 32
        · rw [if_pos h2, if_neg (by simp; omega)]
        · rw [if_neg h2, if_pos (by omega)]
      · rw [kd_high s p h (by omega)] at h4
        omega
  | step p q h hb hk hn ih =>
    obtain ⟨K, hK⟩ := ih
    refine ⟨max K 13 + 1, fun k hk2 => ?_⟩
    obtain ⟨k, rfl⟩ : ∃ m, k = m + 1 := ⟨k - 1, by omega⟩
    exact (ref_ok s hs h hb hk k (by omega)).trans (hK k (by omega))
theorem ref_pass (s : ByteArray) (hs : s.size ≤ 2048) {l : List S34} {last : Int} {p : Nat} {R : List S34} (h : Run s l last p R) (r : List S47 × Int × Int) (hr : Ev (fun k => computusref05_Split.l1 k s [] 0) r) :
    Ev (fun k => computusref05_Split.l0 k s (p : Int)) r := by
  induction h with
  | done l last p h =>
    refine Ev.step (f := fun k => computusref05_Split.l1 k s [] 0) (fun k => ?_) hr
    simp only [computusref05_Split.l0]
    rw [if_neg (by omega)]
  | step l last p R h hb hk hn ih =>
    obtain ⟨K, hK⟩ := ih
    refine ⟨max K 13 + 1, fun k hk2 => ?_⟩
    obtain ⟨k, rfl⟩ : ∃ m, k = m + 1 := ⟨k - 1, by omega⟩
    exact (ref_ok s hs h hb hk k (by omega)).trans (hK k (by omega))
end Go.Proofs.Ytlpbjpkjmagodaa.Lem
