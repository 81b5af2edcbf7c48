/- What word.Split and the reference's Split answer, laid side by side: plain Lean over the printed functions. -/
import Derived.Test.YtlpbjpkjmagodaaUtf
import Derived.Test.YtlpbjpkjmagodaaPWordx7
namespace Go.Proofs.Ytlpbjpkjmagodaa.Lem
open Go.RowKit Go.Proofs.Ytlpbjpkjmagodaa.PWord Go.Proofs.Ytlpbjpkjmagodaa.Utf Go.Proofs.YtlpbjpkjmagodaaW.PrintWords Go.Proofs.YtlpbjpkjmagodaaW.PrintLast
set_option linter.unusedVariables false
set_option linter.unusedSimpArgs false

theorem whole_iff (s : ByteArray) (p : Nat) (h : p < s.size) : wholeAt s p = true ↔ (p + 2 < s.size ∧ bt s p = 239 ∧ bt s (p + 1 : Nat) = 191 ∧ bt s (p + 2 : Nat) = 189) := by
  unfold wholeAt
  have hsz : (s.extract p s.size).size = s.size - p := by rw [← len_list, ext_list, List.length_take, List.length_drop, len_list]; omega
  by_cases h3 : p + 2 < s.size
  · rw [if_pos (by omega), str_eq_iff]
    have b0 := bt_get s p h
    have b1 := bt_get s (p + 1) (by omega)
    have b2 := bt_get s (p + 2) h3
    have hl : ((s.extract p s.size).extract 0 3).data.toList = [s[p], s[p + 1], s[p + 2]] := by
      rw [ext_list, ext_list, drop_cons s p h, drop_cons s (p + 1) (by omega), drop_cons s (p + 2) h3]
      obtain ⟨n, hn⟩ : ∃ n, s.size - p = n + 3 := ⟨s.size - p - 3, by omega⟩
      rw [hn]
      rfl
    constructor
    · intro he
      rw [he] at hl
      simp only [List.cons.injEq] at hl
      obtain ⟨h4, h5, h6, _⟩ := hl
      refine ⟨h3, ?_, ?_, ?_⟩
      · rw [b0, ← h4]; rfl
      · rw [b1, ← h5]; rfl
      · rw [b2, ← h6]; rfl
    · rintro ⟨_, h4, h5, h6⟩
      apply ByteArray.ext
      apply Array.toList_inj.mp
      rw [hl]
      rw [b0] at h4; rw [b1] at h5; rw [b2] at h6
      have e0 : s[p] = 239 := UInt8.toNat_inj.mp (by have : UInt8.toNat 239 = 239 := rfl; omega)
      have e1 : s[p + 1] = 191 := UInt8.toNat_inj.mp (by have : UInt8.toNat 191 = 191 := rfl; omega)
      have e2 : s[p + 2] = 189 := UInt8.toNat_inj.mp (by have : UInt8.toNat 189 = 189 := rfl; omega)
      rw [e0, e1, e2]
  · rw [if_neg (by omega)]
    constructor
    · intro hh; cases hh
    · rintro ⟨hh, _⟩; exact absurd hh h3
theorem bad_iff (s : ByteArray) (p : Nat) (h : p < s.size) : (((Utf8.decode s p).1 : Int) = 65533 ∧ wholeAt s p = false) ↔ Bad s p := by
  have hw := whole_iff s p h
  constructor
  · rintro ⟨h1, h2⟩
    rw [h2] at hw
    have hn : ¬ (p + 2 < s.size ∧ bt s p = 239 ∧ bt s (p + 1 : Nat) = 191 ∧ bt s (p + 2 : Nat) = 189) := fun hh => by cases hw.mpr hh
    rcases tells s p h with ⟨h3, h4, h5⟩ | ⟨h3, h4, h5⟩ | ⟨h3, h4, h5⟩ | ⟨h3, h4, h5⟩ | ⟨h3, h4, h5⟩
    · omega
    · obtain ⟨hs, h6, h7, h8, h9⟩ := h3; omega
    · obtain ⟨hs, h6, h7, h8, h9, h10, h11, h12, h13⟩ := h3
      exact absurd ⟨hs, by omega, by omega, by omega⟩ hn
    · obtain ⟨hs, h6, h7, h8, h9, h10, h11, h12, h13, h14, h15⟩ := h3; omega
    · exact h3
  · intro hb
    rcases tells s p h with ⟨h3, h4, h5⟩ | ⟨h3, h4, h5⟩ | ⟨h3, h4, h5⟩ | ⟨h3, h4, h5⟩ | ⟨h3, h4, h5⟩
    · have := hb.1; omega
    · exact absurd h3 hb.2.1
    · exact absurd h3 hb.2.2.1
    · exact absurd h3 hb.2.2.2
    · refine ⟨by omega, ?_⟩
      cases hv : wholeAt s p with
      | false => rfl
      | true =>
        have := hw.mp hv
        exact absurd ⟨this.1, by omega, by omega, by omega, by omega, by omega, by omega, by omega, by omega⟩ hb.2.2.1

theorem wr (i : Int) (h0 : 0 ≤ i) (h1 : i ≤ 9223372036854775807) : wrap64 i = i := by unfold wrap64; omega
open Classical in
theorem long_rest (s : ByteArray) (p n : Nat) (hs : s.size ≤ 2048) (hn : p + n ≤ s.size) (k j : Nat) (hj : j ≤ n) (hk : n - j < k) :
    computusref05_long.l0 k s (p : Int) (n : Int) (j : Int) = some (if ∀ i, j ≤ i → i < n → 128 ≤ bt s (p + i : Nat) ∧ bt s (p + i : Nat) ≤ 191 then (n : Int) else 0) := by
  induction k generalizing j with
  | zero => omega
  | succ k ih =>
    simp only [computusref05_long.l0]
    by_cases hjn : j < n
    · have e : wrap64 ((p : Int) + (j : Int)) = ((p + j : Nat) : Int) := by rw [wr _ (by omega) (by omega)]; omega
      have e2 : wrap64 ((j : Int) + 1) = ((j + 1 : Nat) : Int) := by rw [wr _ (by omega) (by omega)]; omega
      rw [if_pos (by omega), e, if_pos (by omega), if_pos (by omega)]
      by_cases h1 : bt s (p + j : Nat) < 128
      · rw [if_pos h1, if_neg]
        intro h; have := h j (Nat.le_refl _) hjn; omega
      · rw [if_neg h1]
        by_cases h2 : bt s (p + j : Nat) > 191
        · rw [if_pos h2, if_neg]
          intro h; have := h j (Nat.le_refl _) hjn; omega
        · rw [if_neg h2, e2, ih (j + 1) (by omega) (by omega)]
          congr 1
          by_cases h3 : ∀ i, j + 1 ≤ i → i < n → 128 ≤ bt s (p + i : Nat) ∧ bt s (p + i : Nat) ≤ 191
          · rw [if_pos h3, if_pos (fun i hi hin => by
              by_cases e3 : i = j
              · subst e3; omega
              · exact h3 i (by omega) hin)]
          · rw [if_neg h3, if_neg (fun h => h3 fun i hi hin => h i (by omega) hin)]
    · rw [if_neg (by omega), if_pos (fun i hi hin => by omega)]
open Classical in
/-- What the reference says of a rune's length, behind the choice of n, low and high. -/
theorem long_tail (s : ByteArray) (p n : Nat) (low high : Int) (hs : s.size ≤ 2048) (hp : p < s.size) (hn : n = 0 ∨ 2 ≤ n ∧ n ≤ 4) (k : Nat) (hk : 9 ≤ k) :
    computusref05_long.j3 k s (p : Int) (n : Int) low high = some (if 2 ≤ n ∧ p + n ≤ s.size ∧ low ≤ bt s (p + 1 : Nat) ∧ bt s (p + 1 : Nat) ≤ high ∧ ∀ i, 2 ≤ i → i < n → 128 ≤ bt s (p + i : Nat) ∧ bt s (p + i : Nat) ≤ 191 then (n : Int) else 0) := by
  obtain ⟨k, rfl⟩ : ∃ m, k = m + 2 := ⟨k - 2, by omega⟩
  have e1 : wrap64 ((s.size : Int) - (p : Int)) = (s.size : Int) - p := wr _ (by omega) (by omega)
  have e2 : wrap64 ((p : Int) + 1) = ((p + 1 : Nat) : Int) := by rw [wr _ (by omega) (by omega)]; omega
  have hj : ∀ b, computusref05_long.j4 (k + 1) s (p : Int) (n : Int) b = if b = true then some 0 else computusref05_long.l0 k s (p : Int) (n : Int) 2 := fun b => rfl
  simp only [computusref05_long.j3]
  rw [e1, e2]
  simp only [hj]
  by_cases h0 : n = 0
  · rw [if_pos (by omega), if_pos trivial, if_neg (by omega)]
  · rw [if_neg (by omega)]
    by_cases h1 : p + n ≤ s.size
    · rw [if_neg (by omega), if_pos (by omega), if_pos (by omega)]
      by_cases h2 : bt s (p + 1 : Nat) < low
      · rw [if_pos h2, if_pos trivial, if_neg (by omega)]
      · rw [if_neg h2]
        by_cases h3 : bt s (p + 1 : Nat) > high
        · rw [if_pos (decide_eq_true h3), if_neg (by omega)]
        · rw [if_neg (by simpa using h3), show (2 : Int) = ((2 : Nat) : Int) from rfl, long_rest s p n hs h1 k 2 (by omega) (by omega)]
          congr 1
          by_cases h4 : ∀ i, 2 ≤ i → i < n → 128 ≤ bt s (p + i : Nat) ∧ bt s (p + i : Nat) ≤ 191
          · rw [if_pos h4, if_pos ⟨by omega, h1, by omega, by omega, h4⟩]
          · rw [if_neg h4, if_neg (fun h => h4 h.2.2.2.2)]
    · rw [if_pos (by omega), if_pos trivial, if_neg (by omega)]
theorem long_eq (s : ByteArray) (p : Nat) (hs : s.size ≤ 2048) (hp : p < s.size) (k : Nat) (hk : 13 ≤ k) :
    (Bad s p → computusref05_long.f k s (p : Int) = some 0) ∧ (¬ Bad s p → computusref05_long.f k s (p : Int) = some (((Utf8.decode s p).2 : Nat) : Int)) := by
  obtain ⟨k, rfl⟩ : ∃ m, k = m + 3 := ⟨k - 3, by omega⟩
  unfold computusref05_long.f
  rw [if_pos (by omega), if_pos (by omega)]
  have hT := fun (n : Nat) (low high : Int) (hn : n = 0 ∨ 2 ≤ n ∧ n ≤ 4) (kk : Nat) (hk : 9 ≤ kk) => long_tail s p n low high hs hp hn kk hk
  have r0 := bt_range s (p : Int)
  have hw := tells s p hp
  have yes : ∀ (n : Nat) (low high : Int) (kk : Nat), 9 ≤ kk → 2 ≤ n → n ≤ 4 → p + n ≤ s.size → low ≤ bt s (p + 1 : Nat) → bt s (p + 1 : Nat) ≤ high → (∀ i, 2 ≤ i → i < n → 128 ≤ bt s (p + i : Nat) ∧ bt s (p + i : Nat) ≤ 191) → computusref05_long.j3 kk s (p : Int) (n : Int) low high = some (n : Int) := by
    intro n low high kk h1 h2 h3 h4 h5 h6 h7
    rw [hT n low high (by omega) kk h1, if_pos ⟨h2, h4, h5, h6, h7⟩]
  have no : ∀ (n : Nat) (low high : Int) (kk : Nat), 9 ≤ kk → (n = 0 ∨ 2 ≤ n ∧ n ≤ 4) → ¬ (2 ≤ n ∧ p + n ≤ s.size ∧ low ≤ bt s (p + 1 : Nat) ∧ bt s (p + 1 : Nat) ≤ high ∧ ∀ i, 2 ≤ i → i < n → 128 ≤ bt s (p + i : Nat) ∧ bt s (p + i : Nat) ≤ 191) → computusref05_long.j3 kk s (p : Int) (n : Int) low high = some 0 := by
    intro n low high kk h1 h2 h3
    rw [hT n low high h2 kk h1, if_neg h3]
  constructor
  · intro hb
    obtain ⟨hb0, hb2, hb3, hb4⟩ := hb
    rw [if_neg (by omega)]
    have n2 := no 2 128 191 (k + 2) (by omega) (by omega)
    have n0 := no 0 128 191 k (by omega) (by omega) (by omega)
    have n3 := fun low high h => no 3 low high (k + 1) (by omega) (by omega) h
    have n4 := fun low high h => no 4 low high k (by omega) (by omega) h
    by_cases c1 : bt s p ≥ 194
    · rw [if_pos c1]
      simp only [computusref05_long.j0]
      by_cases c2 : bt s p ≤ 223
      · rw [if_pos (decide_eq_true c2)]
        refine n2 ?_
        rintro ⟨_, h1, h2, h3, _⟩
        exact hb2 ⟨by omega, by omega, by omega, h2, h3⟩
      · rw [if_neg (by simpa using c2), if_pos (by omega)]
        simp only [computusref05_long.j1]
        by_cases c3 : bt s p ≤ 239
        · rw [if_pos (decide_eq_true c3)]
          have t3 : ∀ low high : Int, 128 ≤ low → high ≤ 191 → (bt s p = 224 → 160 ≤ low) → (bt s p = 237 → high ≤ 159) → computusref05_long.j3 (k + 1) s (p : Int) 3 low high = some 0 := by
            intro low high hl hh h224 h237
            refine n3 low high ?_
            rintro ⟨_, h1, h2, h3, h4⟩
            have h5 := h4 2 (by omega) (by omega)
            exact hb3 ⟨by omega, by omega, by omega, by omega, by omega, h5.1, h5.2, fun e => by have := h224 e; omega, fun e => by have := h237 e; omega⟩
          split
          · split <;> exact t3 _ _ (by omega) (by omega) (by omega) (by omega)
          · split <;> exact t3 _ _ (by omega) (by omega) (by omega) (by omega)
        · rw [if_neg (by simpa using c3), if_pos (by omega)]
          simp only [computusref05_long.j2]
          by_cases c4 : bt s p ≤ 244
          · rw [if_pos (decide_eq_true c4)]
            have t4 : ∀ low high : Int, 128 ≤ low → high ≤ 191 → (bt s p = 240 → 144 ≤ low) → (bt s p = 244 → high ≤ 143) → computusref05_long.j3 k s (p : Int) 4 low high = some 0 := by
              intro low high hl hh h240 h244
              refine n4 low high ?_
              rintro ⟨_, h1, h2, h3, h4⟩
              have h5 := h4 2 (by omega) (by omega)
              have h6 := h4 3 (by omega) (by omega)
              exact hb4 ⟨by omega, by omega, by omega, by omega, by omega, h5.1, h5.2, h6.1, h6.2, fun e => by have := h240 e; omega, fun e => by have := h244 e; omega⟩
            split
            · split <;> exact t4 _ _ (by omega) (by omega) (by omega) (by omega)
            · split <;> exact t4 _ _ (by omega) (by omega) (by omega) (by omega)
          · rw [if_neg (by simpa using c4)]
            exact n0
    · rw [if_neg c1]
      simp only [computusref05_long.j0]
      rw [if_neg (by decide), if_neg (by omega)]
      simp only [computusref05_long.j1]
      rw [if_neg (by decide), if_neg (by omega)]
      simp only [computusref05_long.j2]
      rw [if_neg (by decide)]
      exact n0
  · intro hb
    rcases hw with ⟨h1, h2, h3⟩ | ⟨h1, h2, h3⟩ | ⟨h1, h2, h3⟩ | ⟨h1, h2, h3⟩ | ⟨h1, h2, h3⟩
    · rw [if_pos h1, h3]; rfl
    · obtain ⟨hs1, h4, h5, h6, h7⟩ := h1
      rw [if_neg (by omega), if_pos h4, h3]
      simp only [computusref05_long.j0]
      rw [if_pos (decide_eq_true h5)]
      exact yes 2 128 191 (k + 2) (by omega) (by omega) (by omega) (by omega) h6 h7 (fun i hi hi2 => by omega)
    · obtain ⟨hs1, h4, h5, h6, h7, h8, h9, h10, h11⟩ := h1
      rw [if_neg (by omega), if_pos (by omega), h3]
      simp only [computusref05_long.j0]
      rw [if_neg (by simp; omega), if_pos (by omega)]
      simp only [computusref05_long.j1]
      rw [if_pos (decide_eq_true h5)]
      have y3 := fun low high hl hh => yes 3 low high (k + 1) (by omega) (by omega) (by omega) (by omega) hl hh (fun i hi hi2 => by
        obtain rfl : i = 2 := by omega
        exact ⟨h8, h9⟩)
      split
      · split <;> exact y3 _ _ (by omega) (by omega)
      · split <;> exact y3 _ _ (by omega) (by omega)
    · obtain ⟨hs1, h4, h5, h6, h7, h8, h9, h10, h11, h12, h13⟩ := h1
      rw [if_neg (by omega), if_pos (by omega), h3]
      simp only [computusref05_long.j0]
      rw [if_neg (by simp; omega), if_pos (by omega)]
      simp only [computusref05_long.j1]
      rw [if_neg (by simp; omega), if_pos (by omega)]
      simp only [computusref05_long.j2]
      rw [if_pos (decide_eq_true h5)]
      have y4 := fun low high hl hh => yes 4 low high k (by omega) (by omega) (by omega) (by omega) hl hh (fun i hi hi2 => by
        rcases (by omega : i = 2 ∨ i = 3) with rfl | rfl
        · exact ⟨h8, h9⟩
        · exact ⟨h10, h11⟩)
      split
      · split <;> exact y4 _ _ (by omega) (by omega)
      · split <;> exact y4 _ _ (by omega) (by omega)
    · exact absurd h1 hb
end Go.Proofs.Ytlpbjpkjmagodaa.Lem
