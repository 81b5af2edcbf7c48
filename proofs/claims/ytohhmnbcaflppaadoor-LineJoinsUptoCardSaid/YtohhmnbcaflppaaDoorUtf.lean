/- What Utf8.decode and Utf8.encode do, by a string's bytes: plain Lean, of no program. Conditions: a place within the string. -/
import Derived.Test.YtohhmnbcaflppaaDoorWMore
import Derived.Laws.RangeAny
namespace Go.Proofs.YtohhmnbcaflppaaDoor.Utf
open Go.RowKit Go.Proofs.YtohhmnbcaflppaaDoorW.PrintWords
set_option linter.unusedVariables false
set_option linter.unusedSimpArgs false

theorem get_bt (s : ByteArray) (i : Nat) (h : i < s.size) : ((s.get! i).toNat : Int) = bt s (i : Int) := by
  unfold bt
  have h2 : ((i : Nat) : Int).toNat < s.size := by simpa using h
  rw [dif_pos h2]
  have e : s.get! i = s[i]'h := by
    simp [ByteArray.get!, getElem!_pos, h]
    rfl
  rw [e]
  simp

/-- Two bytes that are a rune. -/
def Two (s : ByteArray) (p : Nat) : Prop := p + 1 < s.size ∧ 194 ≤ bt s p ∧ bt s p ≤ 223 ∧ 128 ≤ bt s (p + 1 : Nat) ∧ bt s (p + 1 : Nat) ≤ 191
/-- Three. -/
def Three (s : ByteArray) (p : Nat) : Prop := p + 2 < s.size ∧ 224 ≤ bt s p ∧ bt s p ≤ 239 ∧ 128 ≤ bt s (p + 1 : Nat) ∧ bt s (p + 1 : Nat) ≤ 191 ∧ 128 ≤ bt s (p + 2 : Nat) ∧ bt s (p + 2 : Nat) ≤ 191 ∧ (bt s p = 224 → 160 ≤ bt s (p + 1 : Nat)) ∧ (bt s p = 237 → bt s (p + 1 : Nat) ≤ 159)
/-- Four. -/
def Four (s : ByteArray) (p : Nat) : Prop := p + 3 < s.size ∧ 240 ≤ bt s p ∧ bt s p ≤ 244 ∧ 128 ≤ bt s (p + 1 : Nat) ∧ bt s (p + 1 : Nat) ≤ 191 ∧ 128 ≤ bt s (p + 2 : Nat) ∧ bt s (p + 2 : Nat) ≤ 191 ∧ 128 ≤ bt s (p + 3 : Nat) ∧ bt s (p + 3 : Nat) ≤ 191 ∧ (bt s p = 240 → 144 ≤ bt s (p + 1 : Nat)) ∧ (bt s p = 244 → bt s (p + 1 : Nat) ≤ 143)
/-- None. -/
def Bad (s : ByteArray) (p : Nat) : Prop := 128 ≤ bt s p ∧ ¬ Two s p ∧ ¬ Three s p ∧ ¬ Four s p

/-- What decode tells. -/
def Tells (s : ByteArray) (p : Nat) : Prop :=
  (bt s p < 128 ∧ ((Utf8.decode s p).1 : Int) = bt s p ∧ (Utf8.decode s p).2 = 1) ∨
  (Two s p ∧ ((Utf8.decode s p).1 : Int) = (bt s p - 192) * 64 + (bt s (p + 1 : Nat) - 128) ∧ (Utf8.decode s p).2 = 2) ∨
  (Three s p ∧ ((Utf8.decode s p).1 : Int) = (bt s p - 224) * 4096 + (bt s (p + 1 : Nat) - 128) * 64 + (bt s (p + 2 : Nat) - 128) ∧ (Utf8.decode s p).2 = 3) ∨
  (Four s p ∧ ((Utf8.decode s p).1 : Int) = (bt s p - 240) * 262144 + (bt s (p + 1 : Nat) - 128) * 4096 + (bt s (p + 2 : Nat) - 128) * 64 + (bt s (p + 3 : Nat) - 128) ∧ (Utf8.decode s p).2 = 4) ∨
  (Bad s p ∧ (Utf8.decode s p).1 = 65533 ∧ (Utf8.decode s p).2 = 1)

theorem tells (s : ByteArray) (p : Nat) (h : p < s.size) : Tells s p := by
  have g0 := get_bt s p h
  have r0 := bt_range s (p : Int)
  have g1 := fun h : p + 1 < s.size => get_bt s (p + 1) h
  have g2 := fun h : p + 2 < s.size => get_bt s (p + 2) h
  have g3 := fun h : p + 3 < s.size => get_bt s (p + 3) h
  have r1 := bt_range s ((p + 1 : Nat) : Int)
  have r2 := bt_range s ((p + 2 : Nat) : Int)
  have r3 := bt_range s ((p + 3 : Nat) : Int)
  have hd : ∀ n0 n1 n2 n3 : Nat, (s.get! p).toNat = n0 → (s.get! (p + 1)).toNat = n1 → (s.get! (p + 2)).toNat = n2 → (s.get! (p + 3)).toNat = n3 → Utf8.decode s p =
      (if n0 < 128 then (n0, 1)
      else if n0 / 32 = 6 ∧ p + 1 < s.size ∧ n1 / 64 = 2 then (if n0 % 32 * 64 + n1 % 64 ≥ 128 then (n0 % 32 * 64 + n1 % 64, 2) else (65533, 1))
      else if n0 / 16 = 14 ∧ p + 1 < s.size ∧ n1 / 64 = 2 ∧ p + 2 < s.size ∧ n2 / 64 = 2 then (if n0 % 16 * 4096 + n1 % 64 * 64 + n2 % 64 ≥ 2048 ∧ (n0 % 16 * 4096 + n1 % 64 * 64 + n2 % 64 < 55296 ∨ 57344 ≤ n0 % 16 * 4096 + n1 % 64 * 64 + n2 % 64) then (n0 % 16 * 4096 + n1 % 64 * 64 + n2 % 64, 3) else (65533, 1))
      else if n0 / 8 = 30 ∧ p + 1 < s.size ∧ n1 / 64 = 2 ∧ p + 2 < s.size ∧ n2 / 64 = 2 ∧ p + 3 < s.size ∧ n3 / 64 = 2 then (if n0 % 8 * 262144 + n1 % 64 * 4096 + n2 % 64 * 64 + n3 % 64 ≥ 65536 ∧ n0 % 8 * 262144 + n1 % 64 * 4096 + n2 % 64 * 64 + n3 % 64 ≤ 1114111 then (n0 % 8 * 262144 + n1 % 64 * 4096 + n2 % 64 * 64 + n3 % 64, 4) else (65533, 1))
      else (65533, 1)) := by
    rintro n0 n1 n2 n3 rfl rfl rfl rfl
    unfold Utf8.decode
    unfold Utf8.valid Utf8.runeError
    dsimp only
    have ite_iff : ∀ {a b : Prop} [Decidable a] [Decidable b] {x y x' y' : Nat × Nat}, (a ↔ b) → x = x' → y = y' → (if a then x else y) = (if b then x' else y') := by
      intro a b _ _ x y x' y' hab hx hy
      subst hx hy
      by_cases h : a
      · rw [if_pos h, if_pos (hab.mp h)]
      · rw [if_neg h, if_neg (fun hb => h (hab.mpr hb))]
    have hz : (s.get! (p + 0)).toNat = (s.get! p).toNat := rfl
    refine ite_iff Iff.rfl rfl (ite_iff ?_ rfl (ite_iff ?_ (ite_iff ?_ rfl rfl) (ite_iff ?_ (ite_iff ?_ rfl rfl) rfl)))
    · rw [Bool.and_eq_true, Bool.and_eq_true, beq_iff_eq, beq_iff_eq, decide_eq_true_eq]; exact Iff.rfl
    · simp only [Bool.and_eq_true, beq_iff_eq, decide_eq_true_eq, and_assoc]; exact Iff.rfl
    · simp only [Bool.and_eq_true, Bool.or_eq_true, decide_eq_true_eq]
      omega
    · simp only [Bool.and_eq_true, beq_iff_eq, decide_eq_true_eq, and_assoc]; exact Iff.rfl
    · simp only [Bool.and_eq_true, Bool.or_eq_true, decide_eq_true_eq]
      omega
  unfold Tells Bad Two Three Four
  rw [hd _ _ _ _ rfl rfl rfl rfl]
  clear hd
  generalize (s.get! p).toNat = n0 at g0 ⊢
  generalize (s.get! (p + 1)).toNat = n1 at g1 ⊢
  generalize (s.get! (p + 2)).toNat = n2 at g2 ⊢
  generalize (s.get! (p + 3)).toNat = n3 at g3 ⊢
  generalize bt s (p : Int) = b0 at *
  generalize bt s ((p + 1 : Nat) : Int) = b1 at *
  generalize bt s ((p + 2 : Nat) : Int) = b2 at *
  generalize bt s ((p + 3 : Nat) : Int) = b3 at *
  subst g0
  by_cases c0 : n0 < 128
  · rw [if_pos c0]
    exact .inl ⟨by omega, rfl, rfl⟩
  rw [if_neg c0]
  by_cases c1 : n0 / 32 = 6 ∧ p + 1 < s.size ∧ n1 / 64 = 2
  · rw [if_pos c1]
    have e1 := g1 c1.2.1
    subst e1
    by_cases c2 : n0 % 32 * 64 + n1 % 64 ≥ 128
    · rw [if_pos c2]
      refine .inr (.inl ⟨⟨c1.2.1, ?_, ?_, ?_, ?_⟩, ?_, rfl⟩) <;> omega
    · rw [if_neg c2]
      refine .inr (.inr (.inr (.inr ⟨⟨?_, ?_, ?_, ?_⟩, rfl, rfl⟩))) <;> omega
  rw [if_neg c1]
  by_cases c2 : n0 / 16 = 14 ∧ p + 1 < s.size ∧ n1 / 64 = 2 ∧ p + 2 < s.size ∧ n2 / 64 = 2
  · rw [if_pos c2]
    have e1 := g1 c2.2.1
    have e2 := g2 c2.2.2.2.1
    subst e1 e2
    split
    · rename_i c3
      refine .inr (.inr (.inl ⟨⟨c2.2.2.2.1, ?_, ?_, ?_, ?_, ?_, ?_, ?_, ?_⟩, ?_, rfl⟩)) <;> omega
    · rename_i c3
      refine .inr (.inr (.inr (.inr ⟨⟨?_, ?_, ?_, ?_⟩, rfl, rfl⟩))) <;> omega
  rw [if_neg c2]
  by_cases c3 : n0 / 8 = 30 ∧ p + 1 < s.size ∧ n1 / 64 = 2 ∧ p + 2 < s.size ∧ n2 / 64 = 2 ∧ p + 3 < s.size ∧ n3 / 64 = 2
  · rw [if_pos c3]
    have e1 := g1 c3.2.1
    have e2 := g2 c3.2.2.2.1
    have e3 := g3 c3.2.2.2.2.2.1
    subst e1 e2 e3
    split
    · rename_i c4
      refine .inr (.inr (.inr (.inl ⟨⟨c3.2.2.2.2.2.1, ?_, ?_, ?_, ?_, ?_, ?_, ?_, ?_, ?_, ?_⟩, ?_, rfl⟩))) <;> omega
    · rename_i c4
      refine .inr (.inr (.inr (.inr ⟨⟨?_, ?_, ?_, ?_⟩, rfl, rfl⟩))) <;> omega
  rw [if_neg c3]
  refine .inr (.inr (.inr (.inr ⟨⟨by omega, ?_, ?_, ?_⟩, rfl, rfl⟩)))
  · rintro ⟨h1, h2⟩
    have e1 := g1 h1
    omega
  · rintro ⟨h1, h2⟩
    have e1 := g1 (by omega)
    have e2 := g2 h1
    omega
  · rintro ⟨h1, h2⟩
    have e1 := g1 (by omega)
    have e2 := g2 (by omega)
    have e3 := g3 h1
    omega

theorem valid_of (c : Nat) (h : c < 55296 ∨ (57344 ≤ c ∧ c ≤ 1114111)) : Utf8.valid (c : Int) = true := by
  unfold Utf8.valid
  simp only [Bool.or_eq_true, Bool.and_eq_true, decide_eq_true_eq]
  omega
theorem enc1 (c : Nat) (h : c < 128) : Utf8.encode (c : Int) = ⟨#[UInt8.ofNat c]⟩ := by
  unfold Utf8.encode
  rw [if_pos (valid_of c (by omega)), Int.toNat_natCast]
  exact if_pos h
theorem enc2 (c : Nat) (h : 128 ≤ c) (h2 : c < 2048) : Utf8.encode (c : Int) = ⟨#[UInt8.ofNat (192 + c / 64), UInt8.ofNat (128 + c % 64)]⟩ := by
  unfold Utf8.encode
  rw [if_pos (valid_of c (by omega)), Int.toNat_natCast]
  exact (if_neg (by omega)).trans (if_pos h2)
theorem enc3 (c : Nat) (h : 2048 ≤ c) (h2 : c < 65536) (hv : c < 55296 ∨ 57344 ≤ c) : Utf8.encode (c : Int) = ⟨#[UInt8.ofNat (224 + c / 4096), UInt8.ofNat (128 + c / 64 % 64), UInt8.ofNat (128 + c % 64)]⟩ := by
  unfold Utf8.encode
  rw [if_pos (valid_of c (by omega)), Int.toNat_natCast]
  exact (if_neg (by omega)).trans ((if_neg (by omega)).trans (if_pos h2))
theorem enc4 (c : Nat) (h : 65536 ≤ c) (h2 : c ≤ 1114111) : Utf8.encode (c : Int) = ⟨#[UInt8.ofNat (240 + c / 262144), UInt8.ofNat (128 + c / 4096 % 64), UInt8.ofNat (128 + c / 64 % 64), UInt8.ofNat (128 + c % 64)]⟩ := by
  unfold Utf8.encode
  rw [if_pos (valid_of c (by omega)), Int.toNat_natCast]
  exact (if_neg (by omega)).trans ((if_neg (by omega)).trans (if_neg (by omega)))
theorem byte_eq {n : Nat} {b : UInt8} (h : n = b.toNat) : UInt8.ofNat n = b := by
  subst h
  simp
theorem bt_get (s : ByteArray) (i : Nat) (h : i < s.size) : bt s (i : Int) = ((s[i]'h).toNat : Int) := by
  unfold bt
  rw [dif_pos (by simpa using h)]
  simp
theorem extract_of {s : ByteArray} {p : Nat} {l : List UInt8} (h : p + l.length ≤ s.size) (hl : ∀ j (hj : j < l.length), l[j] = s[p + j]'(by omega)) : s.extract p (p + l.length) = ⟨l.toArray⟩ := by
  apply ByteArray.ext
  apply Array.ext
  · simp [ByteArray.data_extract]
    have : s.data.size = s.size := rfl
    omega
  · intro i h1 h2
    have h3 : i < l.length := by simpa using h2
    have := hl i h3
    simp [ByteArray.data_extract]
    rw [this]
    rfl
theorem ext_list (s : ByteArray) (a e : Nat) : (s.extract a e).data.toList = (s.data.toList.drop a).take (e - a) := by
  rw [ByteArray.data_extract, Array.toList_extract]
theorem len_list (s : ByteArray) : s.data.toList.length = s.size := by rw [Array.length_toList]; rfl
theorem str_eq (a b : ByteArray) : (a.toList == b.toList) = decide (a = b) := by
  rw [ByteArray.toList_eq, ByteArray.toList_eq]
  by_cases h : a = b
  · subst h; simp
  · rw [decide_eq_false h]
    rw [beq_eq_false_iff_ne]
    intro h2
    exact h (ByteArray.ext (Array.toList_inj.mp h2))
theorem str_eq_iff (a b : ByteArray) : (a.toList == b.toList) = true ↔ a = b := by rw [str_eq]; simp
theorem drop_cons (s : ByteArray) (p : Nat) (h : p < s.size) : s.data.toList.drop p = s[p] :: s.data.toList.drop (p + 1) := by
  rw [List.drop_eq_getElem_cons (by rw [len_list]; exact h)]
  rfl
theorem encode_decode (s : ByteArray) (p : Nat) (h : p < s.size) (hb : ¬ Bad s p) : Utf8.encode (Utf8.decode s p).1 = s.extract p (p + (Utf8.decode s p).2) := by
  have b0 := bt_get s p h
  rcases tells s p h with ⟨h1, h2, h3⟩ | ⟨h1, h2, h3⟩ | ⟨h1, h2, h3⟩ | ⟨h1, h2, h3⟩ | ⟨h1, h2, h3⟩
  · rw [h3, enc1 _ (by omega)]
    refine (extract_of (l := [_]) h ?_).symm
    intro j hj
    obtain rfl : j = 0 := by simp at hj; omega
    exact byte_eq (by simp only [Nat.add_zero]; omega)
  · obtain ⟨hs, h4, h5, h6, h7⟩ := h1
    have b1 := bt_get s (p + 1) hs
    rw [h3, enc2 _ (by omega) (by omega)]
    refine (extract_of (l := [_, _]) hs ?_).symm
    intro j hj
    rcases j with _ | _ | j
    · exact byte_eq (by simp only [Nat.add_zero]; omega)
    · exact byte_eq (by simp only [Nat.zero_add]; omega)
    · simp only [List.length_cons, List.length_nil] at hj; omega
  · obtain ⟨hs, h4, h5, h6, h7, h8, h9, h10, h11⟩ := h1
    have b1 := bt_get s (p + 1) (by omega)
    have b2 := bt_get s (p + 2) hs
    rw [h3, enc3 _ (by omega) (by omega) (by omega)]
    refine (extract_of (l := [_, _, _]) hs ?_).symm
    intro j hj
    rcases j with _ | _ | _ | j
    · exact byte_eq (by simp only [Nat.add_zero]; omega)
    · exact byte_eq (by simp only [Nat.zero_add]; omega)
    · exact byte_eq (by simp only [Nat.zero_add, Nat.reduceAdd]; omega)
    · simp only [List.length_cons, List.length_nil] at hj; omega
  · obtain ⟨hs, h4, h5, h6, h7, h8, h9, h10, h11, h12, h13⟩ := h1
    have b1 := bt_get s (p + 1) (by omega)
    have b2 := bt_get s (p + 2) (by omega)
    have b3 := bt_get s (p + 3) hs
    rw [h3, enc4 _ (by omega) (by omega)]
    refine (extract_of (l := [_, _, _, _]) hs ?_).symm
    intro j hj
    rcases j with _ | _ | _ | _ | j
    · exact byte_eq (by simp only [Nat.add_zero]; omega)
    · exact byte_eq (by simp only [Nat.zero_add]; omega)
    · exact byte_eq (by simp only [Nat.zero_add, Nat.reduceAdd]; omega)
    · exact byte_eq (by simp only [Nat.zero_add, Nat.reduceAdd]; omega)
    · simp only [List.length_cons, List.length_nil] at hj; omega
  · exact absurd h1 hb
/-- A rune's bytes, but for a lone one, are all above 127. -/
theorem high_bytes (s : ByteArray) (p : Nat) (h : p < s.size) (hb : ¬ Bad s p) (h0 : 128 ≤ bt s p) (j : Nat) (hj : j < (Utf8.decode s p).2) : 128 ≤ bt s (p + j : Nat) := by
  rcases tells s p h with ⟨h1, h2, h3⟩ | ⟨h1, h2, h3⟩ | ⟨h1, h2, h3⟩ | ⟨h1, h2, h3⟩ | ⟨h1, h2, h3⟩
  · omega
  · obtain ⟨hs, h4, h5, h6, h7⟩ := h1
    rw [h3] at hj
    rcases j with _ | _ | j
    · exact h0
    · exact h6
    · omega
  · obtain ⟨hs, h4, h5, h6, h7, h8, h9, h10, h11⟩ := h1
    rw [h3] at hj
    rcases j with _ | _ | _ | j
    · exact h0
    · exact h6
    · exact h8
    · omega
  · obtain ⟨hs, h4, h5, h6, h7, h8, h9, h10, h11, h12, h13⟩ := h1
    rw [h3] at hj
    rcases j with _ | _ | _ | _ | j
    · exact h0
    · exact h6
    · exact h8
    · exact h10
    · omega
  · exact absurd h1 hb
end Go.Proofs.YtohhmnbcaflppaaDoor.Utf
