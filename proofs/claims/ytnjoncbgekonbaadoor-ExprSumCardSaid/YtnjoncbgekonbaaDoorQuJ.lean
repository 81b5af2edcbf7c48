/- What the claim of CardExprSum needs, out of the session's texts, in their order. -/
import Derived.Test.YtnjoncbgekonbaaDoorQuI
import Derived.Laws.RangeAny
section
namespace Go.Proofs.YtnjoncbgekonbaaDoor.Utf
open Go.RowKit Go.Proofs.YtnjoncbgekonbaaDoorW.PrintWords
set_option linter.unusedVariables false
set_option linter.unusedSimpArgs false
theorem get_bt (s : ByteArray) (i : Nat) (h : i < s.size) : ((s.get! i).toNat : Int) = bt s (i : Int) := by
  unfold bt
  have h2 : ((i : Nat) : Int).toNat < s.size := by simpa using h
  rw [dif_pos h2]
  have e : s.get! i = s[i]'h := by
    simp [ByteArray.get!, getElem!_pos, h]
    rfl
  rw [e]
  simp
def Two (s : ByteArray) (p : Nat) : Prop := p + 1 < s.size ∧ 194 ≤ bt s p ∧ bt s p ≤ 223 ∧ 128 ≤ bt s (p + 1 : Nat) ∧ bt s (p + 1 : Nat) ≤ 191
def Three (s : ByteArray) (p : Nat) : Prop := p + 2 < s.size ∧ 224 ≤ bt s p ∧ bt s p ≤ 239 ∧ 128 ≤ bt s (p + 1 : Nat) ∧ bt s (p + 1 : Nat) ≤ 191 ∧ 128 ≤ bt s (p + 2 : Nat) ∧ bt s (p + 2 : Nat) ≤ 191 ∧ (bt s p = 224 → 160 ≤ bt s (p + 1 : Nat)) ∧ (bt s p = 237 → bt s (p + 1 : Nat) ≤ 159)
def Four (s : ByteArray) (p : Nat) : Prop := p + 3 < s.size ∧ 240 ≤ bt s p ∧ bt s p ≤ 244 ∧ 128 ≤ bt s (p + 1 : Nat) ∧ bt s (p + 1 : Nat) ≤ 191 ∧ 128 ≤ bt s (p + 2 : Nat) ∧ bt s (p + 2 : Nat) ≤ 191 ∧ 128 ≤ bt s (p + 3 : Nat) ∧ bt s (p + 3 : Nat) ≤ 191 ∧ (bt s p = 240 → 144 ≤ bt s (p + 1 : Nat)) ∧ (bt s p = 244 → bt s (p + 1 : Nat) ≤ 143)
def Bad (s : ByteArray) (p : Nat) : Prop := 128 ≤ bt s p ∧ ¬ Two s p ∧ ¬ Three s p ∧ ¬ Four s p
def Tells (s : ByteArray) (p : Nat) : Prop :=
  (bt s p < 128 ∧ ((Utf8.decode s p).1 : Int) = bt s p ∧ (Utf8.decode s p).2 = 1) ∨
  (Two s p ∧ ((Utf8.decode s p).1 : Int) = (bt s p - 192) * 64 + (bt s (p + 1 : Nat) - 128) ∧ (Utf8.decode s p).2 = 2) ∨
  (Three s p ∧ ((Utf8.decode s p).1 : Int) = (bt s p - 224) * 4096 + (bt s (p + 1 : Nat) - 128) * 64 + (bt s (p + 2 : Nat) - 128) ∧ (Utf8.decode s p).2 = 3) ∨
  (Four s p ∧ ((Utf8.decode s p).1 : Int) = (bt s p - 240) * 262144 + (bt s (p + 1 : Nat) - 128) * 4096 + (bt s (p + 2 : Nat) - 128) * 64 + (bt s (p + 3 : Nat) - 128) ∧ (Utf8.decode s p).2 = 4) ∨
  (Bad s p ∧ (Utf8.decode s p).1 = 65533 ∧ (Utf8.decode s p).2 = 1)
theorem tells (s : ByteArray) (p : Nat) (h : p < s.size) : Tells s p := by
  have g0 := get_bt s p h
  have r0 := bt_range s (p : Int)
  have g1 := fun h : p + 1 < s.size => get_bt s (p + 1) h
  have g2 := fun h : p + 2 < s.size => get_bt s (p + 2) h
  have g3 := fun h : p + 3 < s.size => get_bt s (p + 3) h
  have r1 := bt_range s ((p + 1 : Nat) : Int)
  have r2 := bt_range s ((p + 2 : Nat) : Int)
  have r3 := bt_range s ((p + 3 : Nat) : Int)
  have hd : ∀ n0 n1 n2 n3 : Nat, (s.get! p).toNat = n0 → (s.get! (p + 1)).toNat = n1 → (s.get! (p + 2)).toNat = n2 → (s.get! (p + 3)).toNat = n3 → Utf8.decode s p =
      (if n0 < 128 then (n0, 1)
      else if n0 / 32 = 6 ∧ p + 1 < s.size ∧ n1 / 64 = 2 then (if n0 % 32 * 64 + n1 % 64 ≥ 128 then (n0 % 32 * 64 + n1 % 64, 2) else (65533, 1))
      else if n0 / 16 = 14 ∧ p + 1 < s.size ∧ n1 / 64 = 2 ∧ p + 2 < s.size ∧ n2 / 64 = 2 then (if n0 % 16 * 4096 + n1 % 64 * 64 + n2 % 64 ≥ 2048 ∧ (n0 % 16 * 4096 + n1 % 64 * 64 + n2 % 64 < 55296 ∨ 57344 ≤ n0 % 16 * 4096 + n1 % 64 * 64 + n2 % 64) then (n0 % 16 * 4096 + n1 % 64 * 64 + n2 % 64, 3) else (65533, 1))
      else if n0 / 8 = 30 ∧ p + 1 < s.size ∧ n1 / 64 = 2 ∧ p + 2 < s.size ∧ n2 / 64 = 2 ∧ p + 3 < s.size ∧ n3 / 64 = 2 then (if n0 % 8 * 262144 + n1 % 64 * 4096 + n2 % 64 * 64 + n3 % 64 ≥ 65536 ∧ n0 % 8 * 262144 + n1 % 64 * 4096 + n2 % 64 * 64 + n3 % 64 ≤ 1114111 then (n0 % 8 * 262144 + n1 % 64 * 4096 + n2 % 64 * 64 + n3 % 64, 4) else (65533, 1))
      else (65533, 1)) := by
    rintro n0 n1 n2 n3 rfl rfl rfl rfl
    unfold Utf8.decode
    unfold Utf8.valid Utf8.runeError
    dsimp only
    have ite_iff : ∀ {a b : Prop} [Decidable a] [Decidable b] {x y x' y' : Nat × Nat}, (a ↔ b) → x = x' → y = y' → (if a then x else y) = (if b then x' else y') := by
      intro a b _ _ x y x' y' hab hx hy
      subst hx hy
      by_cases h : a
      · rw [if_pos h, if_pos (hab.mp h)]
      · rw [if_neg h, if_neg (fun hb => h (hab.mpr hb))]
    have hz : (s.get! (p + 0)).toNat = (s.get! p).toNat := rfl
    refine ite_iff Iff.rfl rfl (ite_iff ?_ rfl (ite_iff ?_ (ite_iff ?_ rfl rfl) (ite_iff ?_ (ite_iff ?_ rfl rfl) rfl)))
    · rw [Bool.and_eq_true, Bool.and_eq_true, beq_iff_eq, beq_iff_eq, decide_eq_true_eq]; exact Iff.rfl
    · simp only [Bool.and_eq_true, beq_iff_eq, decide_eq_true_eq, and_assoc]; exact Iff.rfl
    · simp only [Bool.and_eq_true, Bool.or_eq_true, decide_eq_true_eq]
      omega
    · simp only [Bool.and_eq_true, beq_iff_eq, decide_eq_true_eq, and_assoc]; exact Iff.rfl
    · simp only [Bool.and_eq_true, Bool.or_eq_true, decide_eq_true_eq]
      omega
  unfold Tells Bad Two Three Four
  rw [hd _ _ _ _ rfl rfl rfl rfl]
  clear hd
  generalize (s.get! p).toNat = n0 at g0 ⊢
  generalize (s.get! (p + 1)).toNat = n1 at g1 ⊢
  generalize (s.get! (p + 2)).toNat = n2 at g2 ⊢
  generalize (s.get! (p + 3)).toNat = n3 at g3 ⊢
  generalize bt s (p : Int) = b0 at *
  generalize bt s ((p + 1 : Nat) : Int) = b1 at *
  generalize bt s ((p + 2 : Nat) : Int) = b2 at *
  generalize bt s ((p + 3 : Nat) : Int) = b3 at *
  subst g0
  by_cases c0 : n0 < 128
  · rw [if_pos c0]
    exact .inl ⟨by omega, rfl, rfl⟩
  rw [if_neg c0]
  by_cases c1 : n0 / 32 = 6 ∧ p + 1 < s.size ∧ n1 / 64 = 2
  · rw [if_pos c1]
    have e1 := g1 c1.2.1
    subst e1
    by_cases c2 : n0 % 32 * 64 + n1 % 64 ≥ 128
    · rw [if_pos c2]
      refine .inr (.inl ⟨⟨c1.2.1, ?_, ?_, ?_, ?_⟩, ?_, rfl⟩) <;> omega
    · rw [if_neg c2]
      refine .inr (.inr (.inr (.inr ⟨⟨?_, ?_, ?_, ?_⟩, rfl, rfl⟩))) <;> omega
  rw [if_neg c1]
  by_cases c2 : n0 / 16 = 14 ∧ p + 1 < s.size ∧ n1 / 64 = 2 ∧ p + 2 < s.size ∧ n2 / 64 = 2
  · rw [if_pos c2]
    have e1 := g1 c2.2.1
    have e2 := g2 c2.2.2.2.1
    subst e1 e2
    split
    · rename_i c3
      refine .inr (.inr (.inl ⟨⟨c2.2.2.2.1, ?_, ?_, ?_, ?_, ?_, ?_, ?_, ?_⟩, ?_, rfl⟩)) <;> omega
    · rename_i c3
      refine .inr (.inr (.inr (.inr ⟨⟨?_, ?_, ?_, ?_⟩, rfl, rfl⟩))) <;> omega
  rw [if_neg c2]
  by_cases c3 : n0 / 8 = 30 ∧ p + 1 < s.size ∧ n1 / 64 = 2 ∧ p + 2 < s.size ∧ n2 / 64 = 2 ∧ p + 3 < s.size ∧ n3 / 64 = 2
  · rw [if_pos c3]
    have e1 := g1 c3.2.1
    have e2 := g2 c3.2.2.2.1
    have e3 := g3 c3.2.2.2.2.2.1
    subst e1 e2 e3
    split
    · rename_i c4
      refine .inr (.inr (.inr (.inl ⟨⟨c3.2.2.2.2.2.1, ?_, ?_, ?_, ?_, ?_, ?_, ?_, ?_, ?_, ?_⟩, ?_, rfl⟩))) <;> omega
    · rename_i c4
      refine .inr (.inr (.inr (.inr ⟨⟨?_, ?_, ?_, ?_⟩, rfl, rfl⟩))) <;> omega
  rw [if_neg c3]
  refine .inr (.inr (.inr (.inr ⟨⟨by omega, ?_, ?_, ?_⟩, rfl, rfl⟩)))
  · rintro ⟨h1, h2⟩
    have e1 := g1 h1
    omega
  · rintro ⟨h1, h2⟩
    have e1 := g1 (by omega)
    have e2 := g2 h1
    omega
  · rintro ⟨h1, h2⟩
    have e1 := g1 (by omega)
    have e2 := g2 (by omega)
    have e3 := g3 h1
    omega
theorem valid_of (c : Nat) (h : c < 55296 ∨ (57344 ≤ c ∧ c ≤ 1114111)) : Utf8.valid (c : Int) = true := by
  unfold Utf8.valid
  simp only [Bool.or_eq_true, Bool.and_eq_true, decide_eq_true_eq]
  omega
theorem enc1 (c : Nat) (h : c < 128) : Utf8.encode (c : Int) = ⟨#[UInt8.ofNat c]⟩ := by
  unfold Utf8.encode
  rw [if_pos (valid_of c (by omega)), Int.toNat_natCast]
  exact if_pos h
theorem enc2 (c : Nat) (h : 128 ≤ c) (h2 : c < 2048) : Utf8.encode (c : Int) = ⟨#[UInt8.ofNat (192 + c / 64), UInt8.ofNat (128 + c % 64)]⟩ := by
  unfold Utf8.encode
  rw [if_pos (valid_of c (by omega)), Int.toNat_natCast]
  exact (if_neg (by omega)).trans (if_pos h2)
theorem enc3 (c : Nat) (h : 2048 ≤ c) (h2 : c < 65536) (hv : c < 55296 ∨ 57344 ≤ c) : Utf8.encode (c : Int) = ⟨#[UInt8.ofNat (224 + c / 4096), UInt8.ofNat (128 + c / 64 % 64), UInt8.ofNat (128 + c % 64)]⟩ := by
  unfold Utf8.encode
  rw [if_pos (valid_of c (by omega)), Int.toNat_natCast]
  exact (if_neg (by omega)).trans ((if_neg (by omega)).trans (if_pos h2))
theorem enc4 (c : Nat) (h : 65536 ≤ c) (h2 : c ≤ 1114111) : Utf8.encode (c : Int) = ⟨#[UInt8.ofNat (240 + c / 262144), UInt8.ofNat (128 + c / 4096 % 64), UInt8.ofNat (128 + c / 64 % 64), UInt8.ofNat (128 + c % 64)]⟩ := by
  unfold Utf8.encode
  rw [if_pos (valid_of c (by omega)), Int.toNat_natCast]
  exact (if_neg (by omega)).trans ((if_neg (by omega)).trans (if_neg (by omega)))
theorem byte_eq {n : Nat} {b : UInt8} (h : n = b.toNat) : UInt8.ofNat n = b := by
  subst h
  simp
theorem bt_get (s : ByteArray) (i : Nat) (h : i < s.size) : bt s (i : Int) = ((s[i]'h).toNat : Int) := by
  unfold bt
  rw [dif_pos (by simpa using h)]
  simp
theorem extract_of {s : ByteArray} {p : Nat} {l : List UInt8} (h : p + l.length ≤ s.size) (hl : ∀ j (hj : j < l.length), l[j] = s[p + j]'(by omega)) : s.extract p (p + l.length) = ⟨l.toArray⟩ := by
  apply ByteArray.ext
  apply Array.ext
  · simp [ByteArray.data_extract]
    have : s.data.size = s.size := rfl
    omega
  · intro i h1 h2
    have h3 : i < l.length := by simpa using h2
    have := hl i h3
    simp [ByteArray.data_extract]
    rw [this]
    rfl
theorem ext_list (s : ByteArray) (a e : Nat) : (s.extract a e).data.toList = (s.data.toList.drop a).take (e - a) := by
  rw [ByteArray.data_extract, Array.toList_extract]
theorem len_list (s : ByteArray) : s.data.toList.length = s.size := by rw [Array.length_toList]; rfl
theorem str_eq (a b : ByteArray) : (a.toList == b.toList) = decide (a = b) := by
  rw [ByteArray.toList_eq, ByteArray.toList_eq]
  by_cases h : a = b
  · subst h; simp
  · rw [decide_eq_false h]
    rw [beq_eq_false_iff_ne]
    intro h2
    exact h (ByteArray.ext (Array.toList_inj.mp h2))
theorem str_eq_iff (a b : ByteArray) : (a.toList == b.toList) = true ↔ a = b := by rw [str_eq]; simp
theorem drop_cons (s : ByteArray) (p : Nat) (h : p < s.size) : s.data.toList.drop p = s[p] :: s.data.toList.drop (p + 1) := by
  rw [List.drop_eq_getElem_cons (by rw [len_list]; exact h)]
  rfl
theorem encode_decode (s : ByteArray) (p : Nat) (h : p < s.size) (hb : ¬ Bad s p) : Utf8.encode (Utf8.decode s p).1 = s.extract p (p + (Utf8.decode s p).2) := by
  have b0 := bt_get s p h
  rcases tells s p h with ⟨h1, h2, h3⟩ | ⟨h1, h2, h3⟩ | ⟨h1, h2, h3⟩ | ⟨h1, h2, h3⟩ | ⟨h1, h2, h3⟩
  · rw [h3, enc1 _ (by omega)]
    refine (extract_of (l := [_]) h ?_).symm
    intro j hj
    obtain rfl : j = 0 := by simp at hj; omega
    exact byte_eq (by simp only [Nat.add_zero]; omega)
  · obtain ⟨hs, h4, h5, h6, h7⟩ := h1
    have b1 := bt_get s (p + 1) hs
    rw [h3, enc2 _ (by omega) (by omega)]
    refine (extract_of (l := [_, _]) hs ?_).symm
    intro j hj
    rcases j with _ | _ | j
    · exact byte_eq (by simp only [Nat.add_zero]; omega)
    · exact byte_eq (by simp only [Nat.zero_add]; omega)
    · simp only [List.length_cons, List.length_nil] at hj; omega
  · obtain ⟨hs, h4, h5, h6, h7, h8, h9, h10, h11⟩ := h1
    have b1 := bt_get s (p + 1) (by omega)
    have b2 := bt_get s (p + 2) hs
    rw [h3, enc3 _ (by omega) (by omega) (by omega)]
    refine (extract_of (l := [_, _, _]) hs ?_).symm
    intro j hj
    rcases j with _ | _ | _ | j
    · exact byte_eq (by simp only [Nat.add_zero]; omega)
    · exact byte_eq (by simp only [Nat.zero_add]; omega)
    · exact byte_eq (by simp only [Nat.zero_add, Nat.reduceAdd]; omega)
    · simp only [List.length_cons, List.length_nil] at hj; omega
  · obtain ⟨hs, h4, h5, h6, h7, h8, h9, h10, h11, h12, h13⟩ := h1
    have b1 := bt_get s (p + 1) (by omega)
    have b2 := bt_get s (p + 2) (by omega)
    have b3 := bt_get s (p + 3) hs
    rw [h3, enc4 _ (by omega) (by omega)]
    refine (extract_of (l := [_, _, _, _]) hs ?_).symm
    intro j hj
    rcases j with _ | _ | _ | _ | j
    · exact byte_eq (by simp only [Nat.add_zero]; omega)
    · exact byte_eq (by simp only [Nat.zero_add]; omega)
    · exact byte_eq (by simp only [Nat.zero_add, Nat.reduceAdd]; omega)
    · exact byte_eq (by simp only [Nat.zero_add, Nat.reduceAdd]; omega)
    · simp only [List.length_cons, List.length_nil] at hj; omega
  · exact absurd h1 hb
end Go.Proofs.YtnjoncbgekonbaaDoor.Utf
end
section
namespace Go.Proofs.YtnjoncbgekonbaaDoor.PExpr
open Go.RowKit Go.Proofs.YtnjoncbgekonbaaDoor.Utf Go.Proofs.YtnjoncbgekonbaaDoorW.PrintWords Go.Proofs.YtnjoncbgekonbaaDoorW.PrintLast Go.Proofs.YtnjoncbgekonbaaDoorW.PrintMore
set_option linter.unusedVariables false
set_option linter.unusedSimpArgs false
theorem whole_iff (s : ByteArray) (p : Nat) (h : p < s.size) : wholeAt s p = true ↔ (p + 2 < s.size ∧ bt s p = 239 ∧ bt s (p + 1 : Nat) = 191 ∧ bt s (p + 2 : Nat) = 189) := by
  unfold wholeAt
  have hsz : (s.extract p s.size).size = s.size - p := by rw [← len_list, ext_list, List.length_take, List.length_drop, len_list]; omega
  by_cases h3 : p + 2 < s.size
  · rw [if_pos (by omega), str_eq_iff]
    have b0 := bt_get s p h
    have b1 := bt_get s (p + 1) (by omega)
    have b2 := bt_get s (p + 2) h3
    have hl : ((s.extract p s.size).extract 0 3).data.toList = [s[p], s[p + 1], s[p + 2]] := by
      rw [ext_list, ext_list, drop_cons s p h, drop_cons s (p + 1) (by omega), drop_cons s (p + 2) h3]
      obtain ⟨n, hn⟩ : ∃ n, s.size - p = n + 3 := ⟨s.size - p - 3, by omega⟩
      rw [hn]
      rfl
    constructor
    · intro he
      rw [he] at hl
      simp only [List.cons.injEq] at hl
      obtain ⟨h4, h5, h6, _⟩ := hl
      refine ⟨h3, ?_, ?_, ?_⟩
      · rw [b0, ← h4]; rfl
      · rw [b1, ← h5]; rfl
      · rw [b2, ← h6]; rfl
    · rintro ⟨_, h4, h5, h6⟩
      apply ByteArray.ext
      apply Array.toList_inj.mp
      rw [hl]
      rw [b0] at h4; rw [b1] at h5; rw [b2] at h6
      have e0 : s[p] = 239 := UInt8.toNat_inj.mp (by have : UInt8.toNat 239 = 239 := rfl; omega)
      have e1 : s[p + 1] = 191 := UInt8.toNat_inj.mp (by have : UInt8.toNat 191 = 191 := rfl; omega)
      have e2 : s[p + 2] = 189 := UInt8.toNat_inj.mp (by have : UInt8.toNat 189 = 189 := rfl; omega)
      rw [e0, e1, e2]
  · rw [if_neg (by omega)]
    constructor
    · intro hh; cases hh
    · rintro ⟨hh, _⟩; exact absurd hh h3
theorem bad_iff (s : ByteArray) (p : Nat) (h : p < s.size) : (((Utf8.decode s p).1 : Int) = 65533 ∧ wholeAt s p = false) ↔ Bad s p := by
  have hw := whole_iff s p h
  constructor
  · rintro ⟨h1, h2⟩
    rw [h2] at hw
    have hn : ¬ (p + 2 < s.size ∧ bt s p = 239 ∧ bt s (p + 1 : Nat) = 191 ∧ bt s (p + 2 : Nat) = 189) := fun hh => by cases hw.mpr hh
    rcases tells s p h with ⟨h3, h4, h5⟩ | ⟨h3, h4, h5⟩ | ⟨h3, h4, h5⟩ | ⟨h3, h4, h5⟩ | ⟨h3, h4, h5⟩
    · omega
    · obtain ⟨hs, h6, h7, h8, h9⟩ := h3; omega
    · obtain ⟨hs, h6, h7, h8, h9, h10, h11, h12, h13⟩ := h3
      exact absurd ⟨hs, by omega, by omega, by omega⟩ hn
    · obtain ⟨hs, h6, h7, h8, h9, h10, h11, h12, h13, h14, h15⟩ := h3; omega
    · exact h3
  · intro hb
    rcases tells s p h with ⟨h3, h4, h5⟩ | ⟨h3, h4, h5⟩ | ⟨h3, h4, h5⟩ | ⟨h3, h4, h5⟩ | ⟨h3, h4, h5⟩
    · have := hb.1; omega
    · exact absurd h3 hb.2.1
    · exact absurd h3 hb.2.2.1
    · exact absurd h3 hb.2.2.2
    · refine ⟨by omega, ?_⟩
      cases hv : wholeAt s p with
      | false => rfl
      | true =>
        have := hw.mp hv
        exact absurd ⟨this.1, by omega, by omega, by omega, by omega, by omega, by omega, by omega, by omega⟩ hb.2.2.1
theorem lastP_mem {l : List Pt} (h : l.length ≠ 0) : lastP l ∈ l := by
  have e : (((l.length : Int) - 1).toNat) = l.length - 1 := by omega
  unfold lastP rd_T59
  rw [e]
  have hg : l[l.length - 1]? = some (l[l.length - 1]'(by omega)) := List.getElem?_eq_getElem (by omega)
  simp only [List.getD, hg, Option.getD_some]
  exact List.getElem_mem _
theorem enc_width (s : ByteArray) (p : Nat) (h : p < s.size) (hb : ¬ Bad s p) : (Utf8.encode (Utf8.decode s p).1).size = (Utf8.decode s p).2 := by
  have he := decode_end s p h
  rw [encode_decode s p h hb, ← len_list, ext_list, List.length_take, List.length_drop, len_list]
  omega
set_option maxRecDepth 10000 in
theorem loop_in (s : ByteArray) : ∀ (d : Nat) (l : List Pt) (last : Int) (pos : Nat) (R : List Pt) (x : Int), spLoop s d l last pos = some (R, x, 0) → (∀ q ∈ l, 0 ≤ q.f2 ∧ q.f2 + q.f1.size ≤ (pos : Int)) → l.length ≤ pos → pos ≤ s.size → (∀ q ∈ R, PartIn s q) ∧ R.length ≤ s.size
  | 0, l, last, pos, R, x, h, _, _, _ => by cases h
  | d + 1, l, last, pos, R, x, h, hl, hn, hp => by
    unfold spLoop at h
    by_cases hlt : pos < s.size
    · rw [if_pos hlt] at h
      have h1 := decode_width s pos hlt
      have h2 := decode_end s pos hlt
      have hlen : l.length ≤ pos + (Utf8.decode s pos).2 := by omega
      have hl2 : ∀ q ∈ l, 0 ≤ q.f2 ∧ q.f2 + q.f1.size ≤ ((pos + (Utf8.decode s pos).2 : Nat) : Int) := fun q hq => by have := hl q hq; omega
      split at h
      · injection h with h
        injection h with _ h
        injection h with _ h
        exact absurd h (by decide)
      split at h
      · injection h with h
        injection h with _ h
        injection h with _ h
        exact absurd h (by decide)
      rename_i hb
      have hw := enc_width s pos hlt (fun q => hb ((bad_iff s pos hlt).mpr q))
      split at h
      · exact loop_in s d l 0 _ R x h hl2 hlen h2
      split at h
      · split at h
        · cases h
        rename_i hl0
        split at h
        · refine loop_in s d _ _ _ R x h (fun q hq => ?_) (by rw [List.length_set]; exact hlen) h2
          rcases List.mem_or_eq_of_mem_set hq with hq | hq
          · exact hl2 q hq
          · subst hq
            have hla := hl _ (lastP_mem hl0)
            refine ⟨hla.1, ?_⟩
            dsimp only
            rw [ByteArray.size_append, hw]
            omega
        · cases h
      · refine loop_in s d _ _ _ R x h (fun q hq => ?_) (by rw [List.length_append]; simp; omega) h2
        rcases List.mem_append.1 hq with hq | hq
        · exact hl2 q hq
        · obtain rfl := List.mem_singleton.1 hq
          refine ⟨by show (0 : Int) ≤ (pos : Int); omega, ?_⟩
          dsimp only
          rw [hw]
          omega
    · rw [if_neg hlt] at h
      injection h with h
      injection h with h _
      subst h
      refine ⟨fun q hq => ?_, by omega⟩
      have := hl q hq
      exact ⟨this.1, by omega⟩
theorem split_in {s : ByteArray} {l : List Pt} {x : Int} (h : word_Split.f s = some (l, x, 0)) : (∀ p ∈ l, PartIn s p) ∧ l.length ≤ s.size ∧ s.size ≤ 2048 := by
  unfold word_Split.f at h
  by_cases hs : s.size > 2048
  · rw [if_pos hs] at h
    injection h with h
    injection h with _ h
    injection h with _ h
    exact absurd h (by decide)
  · rw [if_neg hs] at h
    obtain ⟨h1, h2⟩ := loop_in s _ [] 0 0 l x h (fun q hq => by cases hq) (Nat.zero_le _) (Nat.zero_le _)
    exact ⟨h1, h2, by omega⟩
end Go.Proofs.YtnjoncbgekonbaaDoor.PExpr
end
section
namespace Go.Proofs.YtnjoncbgekonbaaDoor.PExpr
open Go.RowKit Go.Proofs.YtnjoncbgekonbaaDoorW.PrintWords Go.Proofs.YtnjoncbgekonbaaDoorW.PrintLast Go.Proofs.YtnjoncbgekonbaaDoorW.PrintMore
set_option linter.unusedVariables false
set_option linter.unusedSimpArgs false
def ParsePost (w : World) (n : Nd) (pos why : Int) (e : Ending) (w' : World) : Prop :=
  ∃ v, e = .returned (.tuple #[.agg #[.int .i64 n.f0, .string n.f1, v, .int .i64 n.f3], .int .i64 pos, .int .i64 why]) ∧ Kd.R kNd 24 w' w.heap.size (fun _ => True) v n.f2 ∧ Below w.heap.size w w'
theorem behind_mem {k : Int} {l : List Pt} : (∀ q ∈ behind k l, q ∈ l) ∧ (behind k l).length ≤ l.length := by
  unfold behind
  exact ⟨fun q hq => (List.mem_filter.1 hq).1, List.length_filter_le ..⟩
theorem nameL_mem (pos : Int) : ∀ (l : List Pt) (t : ByteArray), (∀ q ∈ (nameL pos t l).2, q ∈ l) ∧ (nameL pos t l).2.length ≤ l.length
  | [], t => ⟨fun q hq => hq, Nat.le_refl _⟩
  | p :: r, t => by
    rw [nameL]
    split
    · obtain ⟨h1, h2⟩ := nameL_mem pos r (t ++ p.f1)
      exact ⟨fun q hq => List.mem_cons_of_mem _ (h1 q hq), by rw [List.length_cons]; omega⟩
    · exact ⟨fun q hq => hq, Nat.le_refl _⟩
theorem token_mem {s : ByteArray} {p : Pt} {r l : List Pt} {t : Tk} (h : tokenP s p r = some (.ok t l)) : (∀ q ∈ l, q ∈ r) ∧ l.length ≤ r.length := by
  unfold tokenP at h
  split at h
  · obtain ⟨q, hq, hR⟩ := Option.map_eq_some_iff.1 h
    cases q with
    | none => cases hR
    | some x =>
      injection hR with _ hR
      rw [← hR]
      exact behind_mem
  split at h
  · have h' := Option.some.inj h
    unfold numP at h'
    split at h'
    · split at h'
      · injection h' with _ h'
        subst h'
        exact ⟨fun q hq => by simp [hq], by simp; omega⟩
      · injection h' with _ h'
        subst h'
        exact ⟨fun q hq => hq, Nat.le_refl _⟩
    · injection h' with _ h'
      subst h'
      exact ⟨fun q hq => hq, Nat.le_refl _⟩
  split at h
  · have h' := Option.some.inj h
    injection h' with _ h'
    rw [← h']
    exact nameL_mem _ _ _
  · have h' := Option.some.inj h
    unfold signP at h'
    split at h'
    · split at h'
      · injection h' with _ h'
        subst h'
        exact ⟨fun q hq => by simp [hq], by simp⟩
      · injection h' with _ h'
        subst h'
        exact ⟨fun q hq => hq, Nat.le_refl _⟩
    · injection h' with _ h'
      subst h'
      exact ⟨fun q hq => hq, Nat.le_refl _⟩
theorem below_kept {S : Nat → Prop} {w wr w5 : World} (hB : Below w.heap.size w wr) (k : Kept S wr w5) (hS : ∀ j, S j → w.heap.size ≤ j) : Below w.heap.size w w5 := by
  have h5 := Kept.trans ((kept_of_below hB).mono (T := fun k => w.heap.size ≤ k) (fun _ _ q => q)) k (fun j _ q => hS j q)
  exact ⟨h5.os, h5.tape, h5.output, h5.size, fun k hk => h5.block k hk (by omega)⟩
def ParseInv (s : ByteArray) (RL : LexR) (w w2 : World) (b g1 g2 : Nat) (pos0 : Int) (kq : Nat) (w' : World) : Prop :=
  ∃ (acc : List Tk) (l : List Pt) (A : Option Addr) (c : Nat), lexL s kq acc l = some RL ∧ LxT g1 w' s l ∧ w'.heap[g2]? = some (.cells #[.slice A acc.length c, .int .i64 0] 48 (0, 0)) ∧ OwnT w2.heap.size w' (.slice A acc.length c) acc.length acc ∧ acc.length ≤ c ∧
    w'.heap[b]? = some (.cells zeroNd 24 (0, 0)) ∧ w'.heap[b + 1]? = some (.cells #[.int .i64 pos0] 3 (0, 0)) ∧ w'.heap[b + 1 + 1]? = some (.cells #[.int .i64 0] 25 (0, 0)) ∧ Below w.heap.size w w' ∧ w2.heap.size ≤ w'.heap.size ∧ (∀ q ∈ l, PartIn s q) ∧ acc.length + kq ≤ 100000 ∧ l.length ≤ 100000
theorem le_maxLen {n : Nat} (h : n ≤ 100000) : n + 1 ≤ maxLen := by
  unfold maxLen
  exact Nat.le_trans (Nat.succ_le_succ h) (by decide)
theorem le_bytes {n : Nat} (h : n ≤ 100000) : (n + 1) * 32 ≤ 140737488355328 := by
  have h1 : (n + 1) * 32 ≤ 3200032 := by omega
  exact Nat.le_trans h1 (by decide)
theorem le_alloc {b : Nat} {w : World} (h : b ≤ w.heap.size) (o : Obj) : b ≤ (w.alloc o).heap.size := by
  rw [World.size_alloc]
  omega
theorem base_low {a b c : Nat} (h : c = b + 2) (h2 : a < b) : a ≤ c := by omega
theorem grown_below {B : Nat} {w w4 w5 : World} {row : Option Nat} (h : Below B w w4) (hg : w4.grownBy w5 row) (hB : B ≤ w.heap.size) (hr : ∀ k, row = some k → B ≤ k) : Below B w w5 := h.grown hg (Nat.le_trans hB h.size) hr
theorem parse_thrown {w wr w5 w' : World} {g1 b2 b3 b4 : Nat} {n : Nd} {pos why pos1 why1 : Int} (hB : Below w.heap.size w wr) (k5 : Kept (fun k => k = g1) wr w5) (hg : w.heap.size ≤ g1) (hk : Kept (fun k => k = b2 ∨ k = b3 ∨ k = b4) w5 w') (h2 : w.heap.size ≤ b2) (h3 : w.heap.size ≤ b3) (h4 : w.heap.size ≤ b4)
    (hf : (zeroN, pos1, why1) = (n, pos, why)) : ParsePost w n pos why (.returned (.tuple #[ndV zeroN none 0, .int .i64 pos1, .int .i64 why1])) w' := by
  injection hf with e1 e2
  injection e2 with e2 e3
  subst e1
  subst e2
  subst e3
  refine ⟨.slice none 0 0, rfl, Kd.R_nil _ _ _ _ _, ?_⟩
  have h5 := Kept.trans (Kept.trans ((kept_of_below hB).mono (T := fun k => w.heap.size ≤ k) (fun _ _ q => q)) k5 (fun j _ q => by have q' : j = g1 := q; show w.heap.size ≤ j; omega)) hk (fun j _ q => by show w.heap.size ≤ j; rcases q with q | q | q <;> omega)
  exact ⟨h5.os, h5.tape, h5.output, h5.size, fun k hk => h5.block k hk (by omega)⟩
theorem parse_good {w w5 w6 w7 : World} {g2 b2 b3 b4 : Nat} {n n1 : Nd} {B1 : Option Addr} {d1 : Nat} {pos why : Int} (hB : Below w.heap.size w w5) (hN : NdS (fun k => k < w5.heap.size) w6 n1 B1 d1) (k6 : Kept (fun k => k = g2) w5 w6) (hk : Kept (fun k => k = b2 ∨ k = b3 ∨ k = b4) w6 w7) (hg : w.heap.size ≤ g2) (h2 : w.heap.size ≤ b2) (h3 : w.heap.size ≤ b3) (h4 : w.heap.size ≤ b4) (l2 : b2 < w5.heap.size) (l3 : b3 < w5.heap.size) (l4 : b4 < w5.heap.size)
    (hf : (n1, (0 : Int), (0 : Int)) = (n, pos, why)) : ParsePost w n pos why (.returned (.tuple #[ndV n1 B1 d1, .int .i64 0, .int .i64 0])) w7 := by
  injection hf with e1 e2
  injection e2 with e2 e3
  subst e1
  subst e2
  subst e3
  have hN' : NdS (fun k => k < w.heap.size) w7 n1 B1 d1 := hN.kept hk (fun j _ q => by show j < w5.heap.size; rcases q with q | q | q <;> omega) (fun j _ q => Nat.lt_of_lt_of_le q hB.size)
  refine ⟨_, rfl, hN'.owned, ?_⟩
  have h5 := Kept.trans (Kept.trans ((kept_of_below hB).mono (T := fun k => w.heap.size ≤ k) (fun _ _ q => q)) k6 (fun j _ q => by have q' : j = g2 := q; show w.heap.size ≤ j; omega)) hk (fun j _ q => by show w.heap.size ≤ j; rcases q with q | q | q <;> omega)
  exact ⟨h5.os, h5.tape, h5.output, h5.size, fun k hk => h5.block k hk (by omega)⟩
theorem stored_kept (w : World) (b2 b3 b4 : Nat) (x0 x1 x2 x3 : Value) : Kept (fun k => k = b2 ∨ k = b3 ∨ k = b4) w ((((w.setCell ⟨b2, 0, none⟩ x0).setCell ⟨b2, 1, none⟩ x1).setCell ⟨b2, 2, none⟩ x2).setCell ⟨b2, 3, none⟩ x3) :=
  ((((Kept.refl _ w).setCell b2 0 _ (Or.inl (Or.inl rfl))).setCell b2 1 _ (Or.inl (Or.inl rfl))).setCell b2 2 _ (Or.inl (Or.inl rfl))).setCell b2 3 _ (Or.inl (Or.inl rfl))
theorem kept_below {S : Nat → Prop} {w W w' : World} (h : Kept S w W) (hs : W.heap.size = w.heap.size) (hb : Below W.heap.size W w') : Kept S w w' :=
  Kept.trans h (kept_of_below hb) (fun j hj q => by have q' : W.heap.size ≤ j := q; omega)
theorem lx_new {S : Nat → Prop} {w1 w2 : World} {g base c : Nat} {A : Option Addr} {s : ByteArray} {l : List Pt} (hK : Kd.R kPt 59 w1 base (fun _ => True) (.slice A l.length c) l) (k : Kept S w1 w2) (hg : w2.heap[g]? = some (.cells #[.string s, .slice A l.length c] 44 (0, 0))) (hgl : w1.heap.size ≤ g) (hS : ∀ j cur, w1.heap[j]? = some (.cells cur 59 (0, 0)) → ¬ S j) : LxT g w2 s l := by
  have hE : kPt.E = [] := rfl
  have hK2 := Kd.R_step (w1 := w2) (Kd.R_bound hK) (fun j hj hl => by
    obtain ⟨_, _, _, q, hq, cells, hc⟩ := hj
    have hq' : q = 59 := by simpa [hE] using hq
    rw [hq'] at hc
    exact k.block j hl (hS j cells hc))
  obtain ⟨A', c', e, hc, hC⟩ := Kd.R_reads hK2
  injection e with e1 _ e2
  subst e1
  subst e2
  obtain ⟨inner, ho⟩ := Kd.R_own hK
  rcases ho.2 with ⟨q1, q2⟩ | ⟨G, cap, cur, q1, q2, q3, _⟩
  · have hl : l = [] := by
      have : l.length = 0 := by omega
      simpa using this
    subst hl
    exact ⟨g + 1, ⟨_, _, hg, hc, by omega, fun q => absurd rfl q, hC⟩, fun q => absurd rfl q⟩
  · injection q1 with q1 _ _
    subst q1
    have hlt := blk_lt q3
    exact ⟨G, ⟨_, _, hg, hc, by omega, fun _ => ⟨0, rfl⟩, hC⟩, fun _ => ⟨cur, k.blk q3 (hS G cur q3)⟩⟩
set_option maxHeartbeats 2000000 in
set_option maxRecDepth 100000 in
theorem parse_body (s : ByteArray) (n : Nd) (pos why : Int) (w : World) (h : parseS s = some (n, pos, why)) : Calls Tryd.prog 6 #[.string s] w (ParsePost w n pos why) := by
  have hmf := makeFunc_run
  unfold parseS at h
  obtain ⟨⟨l, x2, x3⟩, hsp, h⟩ := Option.bind_eq_some_iff.mp h
  have HSP := Aside0.mk hsp
  have H := Aside0.mk h
  clear hsp h
  refine calls_of_wp_defers Tryd.func6 rfl ?_
  simp only [Tryd.ntmps6, List.size_toArray, List.length_cons, List.length_nil, Nat.reduceAdd, Nat.reduceSub, Array.replicate_succ, Array.replicate_zero, List.push_toArray, List.append_toArray, List.nil_append, List.cons_append]
  go_wp2_with (fail)
  refine (word_Split.calls s l x2 x3 _ HSP.out).mono ?_
  rintro e w1 ⟨v0, rfl, hK, hb⟩
  obtain ⟨A, c, hv0⟩ := Kd.R_slice hK
  subst hv0
  have hs1 : w.heap.size + 3 ≤ w1.heap.size := by simpa using hb.size
  have Z2 := Aside0.mk (blk_below (blk_alloc (blk_alloc (heap_alloc_new w (.cells zeroNd 24)) (.cells #[.int .i64 0] 3)) (.cells #[.int .i64 0] 25)) hb)
  have Z3 := Aside0.mk (show w1.heap[w.heap.size + 1]? = some (.cells #[.int .i64 0] 3 (0, 0)) from blk_below (by rw [← World.size_alloc w (.cells zeroNd 24)]; exact blk_alloc (heap_alloc_new (w.alloc (.cells zeroNd 24)) (.cells #[.int .i64 0] 3)) (.cells #[.int .i64 0] 25)) hb)
  have Z4 := Aside0.mk (show w1.heap[w.heap.size + 1 + 1]? = some (.cells #[.int .i64 0] 25 (0, 0)) from blk_below (by rw [← World.size_alloc w (.cells zeroNd 24), ← World.size_alloc (w.alloc (.cells zeroNd 24)) (.cells #[.int .i64 0] 3)]; exact heap_alloc_new _ _) hb)
  have HB1 := Aside0.mk (show Below w.heap.size w w1 from below_step (below_alloc (below_alloc (below_alloc (Below.refl _ _) _) _) _) hb)
  have HK1 := Aside0.mk hK
  clear hb hK
  have q2 := fun i => blk_cell Z2.out i
  have q3 := blk_cell Z3.out 0
  have q4 := blk_cell Z4.out 0
  have f2 := fun i => blk_frozen Z2.out i
  have f3 := blk_frozen Z3.out 0
  have f4 := blk_frozen Z4.out 0
  have h2l : w.heap.size < w1.heap.size := by omega
  have h3l : w.heap.size + 1 < w1.heap.size := by omega
  have h4l : w.heap.size + 1 + 1 < w1.heap.size := by omega
  by_cases hx : x3 = 0
  · have hh := H.out
    rw [if_neg (by simpa using hx)] at hh
    subst hx
    clear H
    have HH := Aside0.mk hh
    clear hh
    obtain ⟨hin, hll, hs2⟩ := split_in HSP.out
    have HIN := Aside0.mk hin
    have HLL := Aside0.mk hll
    have HS2 := Aside0.mk hs2
    obtain ⟨RL, hRL, hh⟩ := Option.bind_eq_some_iff.mp HH.out
    have HRL := Aside0.mk hRL
    have HH2 := Aside0.mk hh
    clear hin hll hs2 hRL hh HH
    go_wp2_with (fail)
    have X2 := Aside0.mk (show ((((w1.setCell ⟨w.heap.size + 1, 0, none⟩ (.int .i64 x2)).setCell ⟨w.heap.size + 1 + 1, 0, none⟩ (.int .i64 0)).alloc (.cells #[.string s, .slice A l.length c] 44)).alloc (.cells #[.slice none 0 0, .int .i64 0] 48)).heap[w.heap.size]? = some (.cells zeroNd 24 (0, 0)) from blk_alloc (blk_alloc (blk_setO (blk_setO Z2.out (by omega)) (by omega)) _) _)
    have X3 := Aside0.mk (show ((((w1.setCell ⟨w.heap.size + 1, 0, none⟩ (.int .i64 x2)).setCell ⟨w.heap.size + 1 + 1, 0, none⟩ (.int .i64 0)).alloc (.cells #[.string s, .slice A l.length c] 44)).alloc (.cells #[.slice none 0 0, .int .i64 0] 48)).heap[w.heap.size + 1]? = some (.cells #[.int .i64 x2] 3 (0, 0)) from blk_alloc (blk_alloc (blk_setO (blk_set Z3.out 0 _) (by omega)) _) _)
    have X4 := Aside0.mk (show ((((w1.setCell ⟨w.heap.size + 1, 0, none⟩ (.int .i64 x2)).setCell ⟨w.heap.size + 1 + 1, 0, none⟩ (.int .i64 0)).alloc (.cells #[.string s, .slice A l.length c] 44)).alloc (.cells #[.slice none 0 0, .int .i64 0] 48)).heap[w.heap.size + 1 + 1]? = some (.cells #[.int .i64 0] 25 (0, 0)) from blk_alloc (blk_alloc (blk_set (blk_setO Z4.out (by omega)) 0 _) _) _)
    have XG1 := Aside0.mk (show ((((w1.setCell ⟨w.heap.size + 1, 0, none⟩ (.int .i64 x2)).setCell ⟨w.heap.size + 1 + 1, 0, none⟩ (.int .i64 0)).alloc (.cells #[.string s, .slice A l.length c] 44)).alloc (.cells #[.slice none 0 0, .int .i64 0] 48)).heap[w1.heap.size]? = some (.cells #[.string s, .slice A l.length c] 44 (0, 0)) from blk_alloc (by
      have := heap_alloc_new ((w1.setCell ⟨w.heap.size + 1, 0, none⟩ (.int .i64 x2)).setCell ⟨w.heap.size + 1 + 1, 0, none⟩ (.int .i64 0)) (.cells #[.string s, .slice A l.length c] 44)
      rw [World.size_setCell, World.size_setCell] at this
      exact this) _)
    have XG2 := Aside0.mk (show ((((w1.setCell ⟨w.heap.size + 1, 0, none⟩ (.int .i64 x2)).setCell ⟨w.heap.size + 1 + 1, 0, none⟩ (.int .i64 0)).alloc (.cells #[.string s, .slice A l.length c] 44)).alloc (.cells #[.slice none 0 0, .int .i64 0] 48)).heap[w1.heap.size + 1]? = some (.cells #[.slice none 0 0, .int .i64 0] 48 (0, 0)) from by
      have := heap_alloc_new (((w1.setCell ⟨w.heap.size + 1, 0, none⟩ (.int .i64 x2)).setCell ⟨w.heap.size + 1 + 1, 0, none⟩ (.int .i64 0)).alloc (.cells #[.string s, .slice A l.length c] 44)) (.cells #[.slice none 0 0, .int .i64 0] 48)
      rw [World.size_alloc, World.size_setCell, World.size_setCell] at this
      exact this)
    have XB := Aside0.mk (show Below w.heap.size w ((((w1.setCell ⟨w.heap.size + 1, 0, none⟩ (.int .i64 x2)).setCell ⟨w.heap.size + 1 + 1, 0, none⟩ (.int .i64 0)).alloc (.cells #[.string s, .slice A l.length c] 44)).alloc (.cells #[.slice none 0 0, .int .i64 0] 48)) from below_alloc (below_alloc ((HB1.out.setCell (p := ⟨w.heap.size + 1, 0, none⟩) (Nat.le_succ _) _).setCell (p := ⟨w.heap.size + 1 + 1, 0, none⟩) (show w.heap.size ≤ w.heap.size + 1 + 1 by omega) _) _) _)
    have hXs : ((((w1.setCell ⟨w.heap.size + 1, 0, none⟩ (.int .i64 x2)).setCell ⟨w.heap.size + 1 + 1, 0, none⟩ (.int .i64 0)).alloc (.cells #[.string s, .slice A l.length c] 44)).alloc (.cells #[.slice none 0 0, .int .i64 0] 48)).heap.size = w1.heap.size + 2 := by simp
    have XL : LxT w1.heap.size ((((w1.setCell ⟨w.heap.size + 1, 0, none⟩ (.int .i64 x2)).setCell ⟨w.heap.size + 1 + 1, 0, none⟩ (.int .i64 0)).alloc (.cells #[.string s, .slice A l.length c] 44)).alloc (.cells #[.slice none 0 0, .int .i64 0] 48)) s l := by
      refine lx_new (S := fun k => k = w.heap.size + 1 ∨ k = w.heap.size + 1 + 1) HK1.out (((((Kept.refl _ w1).setCell (w.heap.size + 1) 0 _ (Or.inl (Or.inl rfl))).setCell (w.heap.size + 1 + 1) 0 _ (Or.inl (Or.inr rfl))).alloc _).alloc _) XG1.out (Nat.le_refl _) (fun j cur hj q => ?_)
      rcases q with q | q
      · rw [q, Z3.out] at hj
        injection hj with hj
        injection hj with _ hj
        exact absurd hj (by decide)
      · rw [q, Z4.out] at hj
        injection hj with hj
        injection hj with _ hj
        exact absurd hj (by decide)
    have XLa := Aside0.mk XL
    clear XL q2 q3 q4 f2 f3 f4 Z2 Z3 Z4 HB1 HK1
    generalize (((w1.setCell ⟨w.heap.size + 1, 0, none⟩ (.int .i64 x2)).setCell ⟨w.heap.size + 1 + 1, 0, none⟩ (.int .i64 0)).alloc (.cells #[.string s, .slice A l.length c] 44)).alloc (.cells #[.slice none 0 0, .int .i64 0] 48) = w2 at X2 X3 X4 XG1 XG2 XB hXs XLa ⊢
    have HI := Aside0.mk (show ParseInv s RL w w2 w.heap.size w1.heap.size (w1.heap.size + 1) x2 (l.length + 1) w2 from ⟨[], l, none, 0, HRL.out, XLa.out, XG2.out, World.ownsRow_nil _ _ _ _, Nat.le_refl _, X2.out, X3.out, X4.out, XB.out, Nat.le_refl _, HIN.out, by have h1 := HLL.out; have h2 := HS2.out; simp; omega, by have h1 := HLL.out; have h2 := HS2.out; omega⟩)
    clear X2 X3 X4 XG1 XG2 XB XLa HRL
    obtain ⟨v6, hv6⟩ : ∃ v6, v6 = Value.pointer (some ⟨w1.heap.size, 0, none⟩) := ⟨_, rfl⟩
    go_loopg [31] (l.length + 1) (fun kq v31 w' => Aside0 (ParseInv s RL w w2 w.heap.size w1.heap.size (w1.heap.size + 1) x2 kq w'))
    case atStart => exact HI
    case round =>
      obtain ⟨acc, l', A', c', hlex, hLx, hg2, hO, hac, h2, h3, h4, hB, h2s, hin, hbd, hll⟩ := hrel.out
      clear HI hrel
      have U2 := Aside0.mk h2
      have U3 := Aside0.mk h3
      have U4 := Aside0.mk h4
      have UG := Aside0.mk hg2
      have UO := Aside0.mk hO
      have UB := Aside0.mk hB
      have UL := Aside0.mk hLx
      have UI := Aside0.mk hin
      have UX := Aside0.mk hlex
      have hg1l : w1.heap.size < wr.heap.size := hLx.lt
      have hg2l : w1.heap.size + 1 < wr.heap.size := blk_lt hg2
      have g2 := fun i => blk_cell hg2 i
      have fg2 := fun i => blk_frozen hg2 i
      clear h2 h3 h4 hg2 hO hB hLx hin hlex
      obtain ⟨gk, rfl⟩ : ∃ q, gk = q + 1 := by cases gk with | zero => cases UX.out | succ q => exact ⟨q, rfl⟩
      cases l' with
      | nil =>
        obtain ⟨T1, hL1, _⟩ := UL.out
        obtain ⟨A1, c1, hlc⟩ := hL1.nil_cells
        have hrl := Aside0.mk (Option.some.inj (show some (LexR.toks acc) = some RL from UX.out))
        obtain ⟨i0, hi0, hz0, hz1, hz2⟩ := info_parts infoTk
        have HO1 := Aside0.mk (World.ownsRow.alloc UO.out (.cells #[.int .i64 4, .string ⟨#[]⟩, .int .i64 s.size] 50))
        have hacl : acc.length ≤ 100000 := by omega
        have HACL := Aside0.mk hacl
        clear hacl
        go_wp2_with (at_builtin; refine wpList_append_lies _ rfl _ _ 46 rfl w2.heap.size 50 i0 _ 3 32 Tryd.underlying46 hi0 hz0 hz1 hz2 rfl (by decide) _ acc.length (flatT acc) rfl HO1.out ⟨wr.heap.size, 0, none⟩ 1 1 [.int .i64 4, .string ⟨#[]⟩, .int .i64 s.size] rfl rfl (World.news_of_block (heap_alloc_new wr _)) (by simp [Value.oneCell']) (by decide) (le_maxLen HACL.out) (le_bytes HACL.out) (le_alloc h2s _) (wr.heap.size + 1) (by simp) ?_; intro gb cb w4 ho4 hgr4 hat4 hlt4; have kg := grown_kept hgr4; have E2 := Aside0.mk (kg.blk (blk_alloc U2.out _) (OwnT.ne HO1.out (blk_alloc U2.out _) (by decide))); have E3 := Aside0.mk (kg.blk (blk_alloc U3.out _) (OwnT.ne HO1.out (blk_alloc U3.out _) (by decide))); have E4 := Aside0.mk (kg.blk (blk_alloc U4.out _) (OwnT.ne HO1.out (blk_alloc U4.out _) (by decide))); have EG := Aside0.mk (kg.blk (blk_alloc UG.out _) (OwnT.ne HO1.out (blk_alloc UG.out _) (by decide))); have EB := Aside0.mk (grown_below (below_alloc UB.out _) hgr4 (Nat.le_refl _) (fun k hk => Nat.le_trans (base_low hXs h2l) (HO1.out.lt k hk).1)); have EO := Aside0.mk ho4; have eg := blk_cell EG.out 0; have efg := blk_frozen EG.out 0; have hse := Aside0.mk (Nat.le_trans (le_alloc h2s (.cells #[.int .i64 4, .string ⟨#[]⟩, .int .i64 s.size] 50)) kg.size); clear kg ho4 hgr4 hat4 g2 fg2)
        have W2 := Aside0.mk (show (w4.setCell ⟨w1.heap.size + 1, 0, none⟩ (.slice (some ⟨gb, 0, none⟩) (acc.length + 1) cb)).heap[w.heap.size]? = some (.cells zeroNd 24 (0, 0)) from blk_setO E2.out (by omega))
        have W3 := Aside0.mk (show (w4.setCell ⟨w1.heap.size + 1, 0, none⟩ (.slice (some ⟨gb, 0, none⟩) (acc.length + 1) cb)).heap[w.heap.size + 1]? = some (.cells #[.int .i64 x2] 3 (0, 0)) from blk_setO E3.out (by omega))
        have W4 := Aside0.mk (show (w4.setCell ⟨w1.heap.size + 1, 0, none⟩ (.slice (some ⟨gb, 0, none⟩) (acc.length + 1) cb)).heap[w.heap.size + 1 + 1]? = some (.cells #[.int .i64 0] 25 (0, 0)) from blk_setO E4.out (by omega))
        have WG := Aside0.mk (show (w4.setCell ⟨w1.heap.size + 1, 0, none⟩ (.slice (some ⟨gb, 0, none⟩) (acc.length + 1) cb)).heap[w1.heap.size + 1]? = some (.cells #[.slice (some ⟨gb, 0, none⟩) (acc.length + 1) cb, .int .i64 0] 48 (0, 0)) from blk_set EG.out 0 _)
        have WB := Aside0.mk (show Below w.heap.size w (w4.setCell ⟨w1.heap.size + 1, 0, none⟩ (.slice (some ⟨gb, 0, none⟩) (acc.length + 1) cb)) from EB.out.setCell (p := ⟨w1.heap.size + 1, 0, none⟩) (show w.heap.size ≤ w1.heap.size + 1 by omega) _)
        have WO := Aside0.mk (show OwnT w2.heap.size (w4.setCell ⟨w1.heap.size + 1, 0, none⟩ (.slice (some ⟨gb, 0, none⟩) (acc.length + 1) cb)) (.slice (some ⟨gb, 0, none⟩) (acc.length + 1) cb) (acc.length + 1) (acc ++ [lastT s]) from OwnT.kept (S := fun k => k = w1.heap.size + 1) (by rw [OwnT, flatT_snoc]; exact EO.out) ((Kept.refl (fun k => k = w1.heap.size + 1) w4).setCell (w1.heap.size + 1) 0 _ (Or.inl rfl)) (fun j _ hj q => by have q' : j = w1.heap.size + 1 := q; omega))
        clear E2 E3 E4 EG EB EO eg efg U2 U3 U4 UG UO UB UL UI HO1
        generalize w4.setCell ⟨w1.heap.size + 1, 0, none⟩ (.slice (some ⟨gb, 0, none⟩) (acc.length + 1) cb) = w5 at W2 W3 W4 WG WB WO ⊢
        have hh := HH2.out
        rw [← hrl.out] at hh
        replace hh : readP (acc ++ [lastT s]) = some (n, pos, why) := hh
        unfold readP at hh
        obtain ⟨R, hR, hh⟩ := Option.bind_eq_some_iff.mp hh
        obtain ⟨_, _, ef, hcb⟩ := WO.out.form
        injection ef with _ _ ef
        rw [← ef] at hcb
        obtain ⟨T, hRd, hTb⟩ := WO.out.rd (g := w1.heap.size + 1) (by simp) (by simp) WG.out (by omega) hcb
        have hpc := parse_calls (w1.heap.size + 1) T 5000 (by decide) 0 0 (by decide) (by decide) w5 (acc ++ [lastT s]) R (by simp) hRd hR
        have hw5 := blk_lt WG.out
        clear WO WG hRd hR ef HH2
        cases R with
        | bad why1 pos1 =>
          have hfin := Option.some.inj (show some (zeroN, pos1, why1) = some (n, pos, why) from hh)
          refine hpc.mono ?_
          intro e w6 hq
          obtain ⟨rfl, k6⟩ := Post.bad_ hq
          exact thrown_end (b2 := w.heap.size) (b3 := w.heap.size + 1) (b4 := w.heap.size + 1 + 1) rfl rfl rfl ⟨zeroNd, rfl, k6.blk W2.out (by omega)⟩ ⟨_, k6.blk W3.out (by omega)⟩ ⟨_, k6.blk W4.out (by omega)⟩ (by omega) (by omega) (by omega) (fun w' hk' => parse_thrown WB.out k6 (by omega) hk' (by omega) (by omega) (by omega) hfin)
        | ok n1 l1 =>
          cases l1 with
          | nil => cases hh
          | cons t1 r1 =>
            replace hh : (if t1.f0 ≠ 4 then some (zeroN, t1.f2, 30) else some (n1, 0, 0)) = some (n, pos, why) := hh
            have HH3 := Aside0.mk hh
            clear hh
            refine hpc.mono ?_
            intro e w6 hq
            obtain ⟨B1, d1, rfl, hN6, _, hR6, k6⟩ := Post.ok_ hq
            clear hq hpc
            obtain ⟨off6, c6, y0, y1, yz0, yz1, yc, yT, yC⟩ := hR6.cell
            obtain ⟨z0, z1, z2⟩ := head_cells yC
            have V2 := Aside0.mk (k6.blk W2.out (by omega))
            have V3 := Aside0.mk (k6.blk W3.out (by omega))
            have V4 := Aside0.mk (k6.blk W4.out (by omega))
            have VN := Aside0.mk hN6
            have VK := Aside0.mk k6
            have hTl6 := toks_lt yC (by simp)
            have hlen6 : (0 : Int) < (r1.length : Int) + 1 := by omega
            clear hN6 hR6 k6 yC yT W2 W3 W4
            have q2 := fun i => blk_cell V2.out i
            have f2 := fun i => blk_frozen V2.out i
            have q3 := blk_cell V3.out 0
            have q4 := blk_cell V4.out 0
            have f3 := blk_frozen V3.out 0
            have f4 := blk_frozen V4.out 0
            have hT2 : T ≠ w.heap.size := by omega
            unfold ndV
            by_cases ht : t1.f0 = 4
            · go_wp2_with (fail)
              have hff : (n1, (0 : Int), (0 : Int)) = (n, pos, why) := by
                have h0 := HH3.out
                rw [if_neg (by simpa using ht)] at h0
                exact Option.some.inj h0
              have hkk := ((stored_kept w6 w.heap.size (w.heap.size + 1) (w.heap.size + 1 + 1) (.int .i64 n1.f0) (.string n1.f1) (.slice B1 n1.f2.length d1) (.int .i64 n1.f3)).trans (stored_kept _ w.heap.size (w.heap.size + 1) (w.heap.size + 1 + 1) (.int .i64 n1.f0) (.string n1.f1) (.slice B1 n1.f2.length d1) (.int .i64 n1.f3)) (fun _ _ q => q)).setCell (w.heap.size + 1) 0 (.int .i64 0) (Or.inl (Or.inr (Or.inl rfl)))
              have hkk2 := hkk.setCell (w.heap.size + 1 + 1) 0 (.int .i64 0) (Or.inl (Or.inr (Or.inr rfl)))
              exact idle_end (b2 := w.heap.size) (b3 := w.heap.size + 1) (b4 := w.heap.size + 1 + 1) (n := n1) (A := B1) (c := d1) (pos := 0) (why := 0) rfl rfl rfl (blk_setO (blk_setO (blk_set (blk_set (blk_set (blk_set (blk_set (blk_set (blk_set (blk_set V2.out 0 _) 1 _) 2 _) 3 _) 0 _) 1 _) 2 _) 3 _) (by omega)) (by omega)) (blk_setO (blk_set (blk_setO (blk_setO (blk_setO (blk_setO (blk_setO (blk_setO (blk_setO (blk_setO V3.out (by omega)) (by omega)) (by omega)) (by omega)) (by omega)) (by omega)) (by omega)) (by omega)) 0 _) (by omega)) (blk_set (blk_setO (blk_setO (blk_setO (blk_setO (blk_setO (blk_setO (blk_setO (blk_setO (blk_setO V4.out (by omega)) (by omega)) (by omega)) (by omega)) (by omega)) (by omega)) (by omega)) (by omega)) (by omega)) 0 _) (parse_good WB.out VN.out VK.out hkk2 (by omega) (by omega) (by omega) (by omega) (by omega) (by omega) (by omega) hff)
            · have htf := eq_false ht
              go_wp2_with (fail)
              have hff : (zeroN, t1.f2, (30 : Int)) = (n, pos, why) := by
                have h0 := HH3.out
                rw [if_pos ht] at h0
                exact Option.some.inj h0
              refine (fail_calls 30 t1.f2 _).mono ?_
              intro e w7 hq
              obtain ⟨he, hb7⟩ := hq
              unfold Thrown at he
              subst he
              have hkk := kept_below (stored_kept w6 w.heap.size (w.heap.size + 1) (w.heap.size + 1 + 1) (.int .i64 n1.f0) (.string n1.f1) (.slice B1 n1.f2.length d1) (.int .i64 n1.f3)) (by simp) hb7
              exact thrown_end (b2 := w.heap.size) (b3 := w.heap.size + 1) (b4 := w.heap.size + 1 + 1) rfl rfl rfl ⟨ndCs n1 B1 d1, rfl, blk_below (blk_set (blk_set (blk_set (blk_set V2.out 0 _) 1 _) 2 _) 3 _) hb7⟩ ⟨_, blk_below (blk_setO (blk_setO (blk_setO (blk_setO V3.out (by omega)) (by omega)) (by omega)) (by omega)) hb7⟩ ⟨_, blk_below (blk_setO (blk_setO (blk_setO (blk_setO V4.out (by omega)) (by omega)) (by omega)) (by omega)) hb7⟩ (by omega) (by omega) (by omega) (fun w' hk' => parse_thrown WB.out VK.out (by omega) (hkk.trans hk' (fun _ _ q => q)) (by omega) (by omega) (by omega) hff)
      | cons p r =>
        obtain ⟨T1, hL1, hT1⟩ := UL.out
        obtain ⟨off1, c1, k0, k1, kz1, hc1, hTg1, hTl1, x0, x1, xx2, hC1⟩ := hL1.cells
        have hn1 : (0 : Int) < (r.length : Int) + 1 := by omega
        clear k0 kz1 x0 x1 xx2 hC1
        have hlx : ((tokenP s p r).bind fun R => match R with | .bad why pos => some (LexR.bad why pos) | .ok t l => lexL s gk (acc ++ [t]) l) = some RL := UX.out
        obtain ⟨RT, hRT, hlx⟩ := Option.bind_eq_some_iff.mp hlx
        have HRT := Aside0.mk hRT
        have HLX := Aside0.mk hlx
        clear hRT hlx UX
        go_wp2_with (fail)
        refine start_ (n := 12) (S := fun w' => w'.cell? ⟨w1.heap.size + 1, 0, none⟩ = some (.slice A' acc.length c')) (ds := [11]) (Array.replicate 12 false) (by kernel_rfl) rfl rfl ((g2 0).trans rfl) (fun hHeld => ?_)
        ((refine rpure (i := 0) (N := some 32) (v := ?_) (a' := ?_) rfl rfl (by kernel_rfl) (fun c a w h => put_ok (by decide) c a w h) (Or.inl ⟨by rfl, ?_⟩) ?_ ?_); rotate_left; (· intro w'; go_simp; with_reducible rfl); rotate_left; (· (simp only [Act.put, List.setIfInBounds_toArray, List.set_cons_zero, List.set_cons_succ, i64_w, i32_w]; rfl)))
        ((refine rpure (i := 1) (N := some 33) (v := ?_) (a' := ?_) rfl rfl (by kernel_rfl) (fun c a w h => put_ok (by decide) c a w h) (Or.inl ⟨by rfl, ?_⟩) ?_ ?_); rotate_left; (· intro w'; go_simp; with_reducible rfl); rotate_left; (· (simp only [Act.put, List.setIfInBounds_toArray, List.set_cons_zero, List.set_cons_succ, i64_w, i32_w]; rfl)))
        ((refine rpure (i := 2) (N := some 34) (v := ?_) (a' := ?_) rfl rfl (by kernel_rfl) (fun c a w h => put_ok (by decide) c a w h) (Or.inl ⟨by rfl, ?_⟩) ?_ ?_); rotate_left; (· intro w'; go_simp; with_reducible rfl); rotate_left; (· (simp only [Act.put, List.setIfInBounds_toArray, List.set_cons_zero, List.set_cons_succ, i64_w, i32_w]; rfl)))
        ((refine rpure (i := 3) (N := some 35) (v := ?_) (a' := ?_) rfl rfl (by kernel_rfl) (fun c a w h => put_ok (by decide) c a w h) (Or.inl ⟨by rfl, ?_⟩) ?_ ?_); rotate_left; (· intro w'; go_simp; with_reducible rfl); rotate_left; (· (simp only [Act.put, List.setIfInBounds_toArray, List.set_cons_zero, List.set_cons_succ, i64_w, i32_w]; rfl)))
        ((refine rtake (i := 4) (N := some 36) (v := ?_) (a' := ?_) rfl rfl (by kernel_rfl) (fun c a w h => put_ok (by decide) c a w h) (Or.inl ⟨by rfl, ?_⟩) hHeld ?_ ?_); rotate_left; (· rintro w' s0; go_simp; with_reducible rfl); rotate_left; (· (simp only [Act.put, List.setIfInBounds_toArray, List.set_cons_zero, List.set_cons_succ, i64_w, i32_w]; rfl)))
        ((refine rpure (i := 5) (N := some 37) (v := ?_) (a' := ?_) rfl rfl (by kernel_rfl) (fun c a w h => put_ok (by decide) c a w h) (Or.inl ⟨by rfl, ?_⟩) ?_ ?_); rotate_left; (· intro w'; go_simp; with_reducible rfl); rotate_left; (· (simp only [Act.put, List.setIfInBounds_toArray, List.set_cons_zero, List.set_cons_succ, i64_w, i32_w]; rfl)))
        have htc := token_calls w1.heap.size wr.drew s p r RT (UL.out.kept (Kept.refl (fun _ => False) wr).drew (fun q => q) (fun _ _ _ q => q)) (UI.out p (by simp)) (fun q hq => UI.out q (by simp [hq])) (Nat.le_trans HS2.out (by decide)) (Nat.le_of_succ_le hll) HRT.out
        refine rone (i := 6) (N := some 38) rfl rfl (by kernel_rfl) (by decide) (fun K hK => ?_)
        refine rcall 13 #[.pointer (some ⟨w1.heap.size, 0, none⟩)] (by rfl) rfl (by go_simp) ?_
        cases RT with
        | bad why1 pos1 =>
          obtain rfl := Option.some.inj (show some (LexR.bad why1 pos1) = some RL from HLX.out)
          have hfin := Option.some.inj (show some (zeroN, pos1, why1) = some (n, pos, why) from HH2.out)
          refine htc.mono ?_
          rintro e w5 ⟨he, hk5⟩
          unfold Thrown at he
          subst he
          refine Or.inr ⟨_, rfl, ?_⟩
          have k5 := Kept.trans ((Kept.refl (fun k => k = w1.heap.size) wr).drew) hk5 (fun _ _ q => q)
          exact thrown_end (b2 := w.heap.size) (b3 := w.heap.size + 1) (b4 := w.heap.size + 1 + 1) rfl rfl rfl ⟨zeroNd, rfl, k5.blk U2.out (by omega)⟩ ⟨_, k5.blk U3.out (by omega)⟩ ⟨_, k5.blk U4.out (by omega)⟩ (by omega) (by omega) (by omega) (fun w' hk' => parse_thrown UB.out k5 (by omega) hk' (by omega) (by omega) (by omega) hfin)
        | ok tk lk =>
          refine htc.mono ?_
          rintro e w5 ⟨rfl, hL5, hK5⟩
          have k5 := Kept.trans ((Kept.refl (fun k => k = w1.heap.size) wr).drew) hK5 (fun _ _ q => q)
          have hs5 := k5.size
          refine Or.inl ⟨_, rfl, hK _ _ ((blk_cell (k5.blk UG.out (by omega)) 0).trans rfl) (fun hHeld => ?_)⟩
          clear hK K htc
          refine norm_ (by (simp only [Act.put, List.setIfInBounds_toArray, List.set_cons_zero, List.set_cons_succ, i64_w, i32_w]; rfl)) ?_
          refine rone (i := 7) (N := some 39) rfl rfl (by kernel_rfl) (by decide) (fun K hK => ?_)
          unfold tokV
          go_simp
          refine hK _ _ ((blk_cell (blk_alloc (k5.blk UG.out (by omega)) _) 0).trans rfl) (fun hHeld => ?_)
          clear hK K
          obtain ⟨i0, hi0, hz0, hz1, hz2⟩ := info_parts infoTk
          have HO5 := Aside0.mk (show OwnT w2.heap.size (w5.alloc (.cells #[.int .i64 tk.f0, .string tk.f1, .int .i64 tk.f2] 50)) (.slice A' acc.length c') acc.length acc from World.ownsRow.alloc (OwnT.kept UO.out k5 (fun j _ hj q => by have q' : j = w1.heap.size := q; omega)) _)
          have hacl : acc.length ≤ 100000 := by omega
          have hw25 : w2.heap.size ≤ w5.heap.size := Nat.le_trans h2s hs5
          refine rone (i := 8) (N := some 40) rfl rfl (by kernel_rfl) (by decide) (fun K hK => ?_)
          refine step_append_lies (w5.alloc (.cells #[.int .i64 tk.f0, .string tk.f1, .int .i64 tk.f2] 50)) (by rfl) _ _ _ (by rfl) w2.heap.size 50 i0 _ 3 32 Tryd.underlying46 hi0 hz0 hz1 hz2 rfl (by decide) (.slice A' acc.length c') acc.length (flatT acc) (by rfl) HO5.out ⟨w5.heap.size, 0, none⟩ 1 1 (tkL tk) (by rfl) (by rfl) (World.news_of_block (heap_alloc_new w5 _)) (by simp [tkL, Value.oneCell']) (by decide) (le_maxLen hacl) (le_bytes hacl) (le_alloc hw25 _) (w5.heap.size + 1) (by simp) ?_
          intro gb cb w4 ho4 hgr4 hat4 hlt4
          have kg := grown_kept hgr4
          have E2 := Aside0.mk (kg.blk (blk_alloc (k5.blk U2.out (by omega)) _) (OwnT.ne HO5.out (blk_alloc (k5.blk U2.out (by omega)) _) (by decide)))
          have E3 := Aside0.mk (kg.blk (blk_alloc (k5.blk U3.out (by omega)) _) (OwnT.ne HO5.out (blk_alloc (k5.blk U3.out (by omega)) _) (by decide)))
          have E4 := Aside0.mk (kg.blk (blk_alloc (k5.blk U4.out (by omega)) _) (OwnT.ne HO5.out (blk_alloc (k5.blk U4.out (by omega)) _) (by decide)))
          have EG := Aside0.mk (kg.blk (blk_alloc (k5.blk UG.out (by omega)) _) (OwnT.ne HO5.out (blk_alloc (k5.blk UG.out (by omega)) _) (by decide)))
          have EL := Aside0.mk ((hL5.kept ((Kept.refl (fun _ => False) w5).alloc _) (fun q => q) (fun _ _ _ q => q)).kept kg (fun q => by have := (HO5.out.lt _ q.symm).1; omega) (fun j cur hj q => OwnT.ne HO5.out hj (by decide) q))
          have EB := Aside0.mk (grown_below (below_alloc (below_kept UB.out k5 (fun j q => by have q' : j = w1.heap.size := q; omega)) _) hgr4 (Nat.le_refl _) (fun k hk => Nat.le_trans (base_low hXs h2l) (HO5.out.lt k hk).1))
          have EO := Aside0.mk ho4
          have hse : w2.heap.size ≤ w4.heap.size := Nat.le_trans (le_alloc hw25 _) kg.size
          have eg := blk_cell EG.out 0
          have efg := blk_frozen EG.out 0
          clear kg ho4 hgr4 hat4 g2 fg2 HO5 k5 hK5 hL5
          refine hK _ _ (eg.trans rfl) (fun hHeld => ?_)
          clear hK K
          refine norm_ (show _ = Act.put _ (some 40) (.slice (some ⟨gb, 0, none⟩) (acc.length + 1) cb) from rfl) ?_
          refine norm_ (by (simp only [Act.put, List.setIfInBounds_toArray, List.set_cons_zero, List.set_cons_succ, i64_w, i32_w]; rfl)) ?_
          ((refine rpure (i := 9) (N := some 41) (v := ?_) (a' := ?_) rfl rfl (by kernel_rfl) (fun c a w h => put_ok (by decide) c a w h) (Or.inl ⟨by rfl, ?_⟩) ?_ ?_); rotate_left; (· intro w'; go_simp; with_reducible rfl); rotate_left; (· (simp only [Act.put, List.setIfInBounds_toArray, List.set_cons_zero, List.set_cons_succ, i64_w, i32_w]; rfl)))
          ((refine rpure (i := 10) (N := some 42) (v := ?_) (a' := ?_) rfl rfl (by kernel_rfl) (fun c a w h => put_ok (by decide) c a w h) (Or.inl ⟨by rfl, ?_⟩) ?_ ?_); rotate_left; (· intro w'; go_simp; with_reducible rfl); rotate_left; (· (simp only [Act.put, List.setIfInBounds_toArray, List.set_cons_zero, List.set_cons_succ, i64_w, i32_w]; rfl)))
          refine rlast (i := 11) (N := none) rfl rfl (by kernel_rfl) (by decide) (fun K hK => ?_)
          rw [if_pos (by rfl)]
          unfold Oper.wp
          go_simp
          refine hK _ _ (done_ (by kernel_rfl) ?_)
          clear hK K hHeld
          have tm := token_mem HRT.out
          have HI := Aside0.mk (show ParseInv s RL w w2 w.heap.size w1.heap.size (w1.heap.size + 1) x2 gk (w4.setCell ⟨w1.heap.size + 1, 0, none⟩ (.slice (some ⟨gb, 0, none⟩) (acc.length + 1) cb)) from by
            have hn : (acc ++ [tk]).length = acc.length + 1 := by simp
            have WO : OwnT w2.heap.size (w4.setCell ⟨w1.heap.size + 1, 0, none⟩ (.slice (some ⟨gb, 0, none⟩) (acc.length + 1) cb)) (.slice (some ⟨gb, 0, none⟩) (acc.length + 1) cb) (acc.length + 1) (acc ++ [tk]) := OwnT.kept (S := fun k => k = w1.heap.size + 1) (by rw [OwnT, flatT_snoc]; exact EO.out) ((Kept.refl (fun k => k = w1.heap.size + 1) w4).setCell (w1.heap.size + 1) 0 _ (Or.inl rfl)) (fun j _ hj q => by have q' : j = w1.heap.size + 1 := q; omega)
            obtain ⟨_, _, ef, hcb⟩ := WO.form
            injection ef with _ _ ef
            rw [← ef] at hcb
            refine ⟨acc ++ [tk], lk, some ⟨gb, 0, none⟩, cb, HLX.out, EL.out.kept (S := fun k => k = w1.heap.size + 1) ((Kept.refl (fun k => k = w1.heap.size + 1) w4).setCell (w1.heap.size + 1) 0 _ (Or.inl rfl)) (fun q => by have q' : w1.heap.size = w1.heap.size + 1 := q; omega) (fun j cur hj q => by
              have q' : j = w1.heap.size + 1 := q
              rw [q', EG.out] at hj
              injection hj with hj
              injection hj with _ hj
              exact absurd hj (by decide)), ?_, ?_, ?_, blk_setO E2.out (by omega), blk_setO E3.out (by omega), blk_setO E4.out (by omega), EB.out.setCell (p := ⟨w1.heap.size + 1, 0, none⟩) (show w.heap.size ≤ w1.heap.size + 1 by omega) _, by rw [World.size_setCell]; exact hse, fun q hq => UI.out q (by simp [tm.1 q hq]), ?_, Nat.le_trans tm.2 (Nat.le_of_succ_le hll)⟩
            · rw [hn]
              exact blk_set EG.out 0 _
            · rw [hn]
              exact WO
            · rw [hn]
              exact hcb
            · rw [hn]
              omega)
          clear E2 E3 E4 EG EL EB EO eg efg U2 U3 U4 UG UO UB UL UI HRT HLX
          generalize (w4.setCell ⟨w1.heap.size + 1, 0, none⟩ (.slice (some ⟨gb, 0, none⟩) (acc.length + 1) cb)) = wf at HI ⊢
          go_wp2_with (fail)
          go_roundg gk
          case measure => omega
          case rel => exact HI
  · have hh := H.out
    rw [if_pos (by simpa using hx)] at hh
    have hff : (zeroN, x2, x3) = (n, pos, why) := Option.some.inj hh
    have hxf := eq_false hx
    clear hh H HSP HK1
    go_wp2_with (fail)
    have X2 := Aside0.mk (show ((w1.setCell ⟨w.heap.size + 1, 0, none⟩ (.int .i64 x2)).setCell ⟨w.heap.size + 1 + 1, 0, none⟩ (.int .i64 x3)).heap[w.heap.size]? = some (.cells zeroNd 24 (0, 0)) from blk_setO (blk_setO Z2.out (by omega)) (by omega))
    have X3 := Aside0.mk (show ((w1.setCell ⟨w.heap.size + 1, 0, none⟩ (.int .i64 x2)).setCell ⟨w.heap.size + 1 + 1, 0, none⟩ (.int .i64 x3)).heap[w.heap.size + 1]? = some (.cells #[.int .i64 x2] 3 (0, 0)) from blk_setO (blk_set Z3.out 0 _) (by omega))
    have X4 := Aside0.mk (show ((w1.setCell ⟨w.heap.size + 1, 0, none⟩ (.int .i64 x2)).setCell ⟨w.heap.size + 1 + 1, 0, none⟩ (.int .i64 x3)).heap[w.heap.size + 1 + 1]? = some (.cells #[.int .i64 x3] 25 (0, 0)) from blk_set (blk_setO Z4.out (by omega)) 0 _)
    have XK := Aside0.mk (show Kept (fun k => k = w.heap.size ∨ k = w.heap.size + 1 ∨ k = w.heap.size + 1 + 1) w1 ((w1.setCell ⟨w.heap.size + 1, 0, none⟩ (.int .i64 x2)).setCell ⟨w.heap.size + 1 + 1, 0, none⟩ (.int .i64 x3)) from ((Kept.refl _ w1).setCell (w.heap.size + 1) 0 _ (Or.inl (Or.inr (Or.inl rfl)))).setCell (w.heap.size + 1 + 1) 0 _ (Or.inl (Or.inr (Or.inr rfl))))
    clear q2 q3 q4 f2 f3 f4 Z2 Z3 Z4
    generalize ((w1.setCell ⟨w.heap.size + 1, 0, none⟩ (.int .i64 x2)).setCell ⟨w.heap.size + 1 + 1, 0, none⟩ (.int .i64 x3)) = w2 at X2 X3 X4 XK ⊢
    have q2 := fun i => blk_cell X2.out i
    have q3 := blk_cell X3.out 0
    have q4 := blk_cell X4.out 0
    have f2 := fun i => blk_frozen X2.out i
    have f3 := blk_frozen X3.out 0
    have f4 := blk_frozen X4.out 0
    refine start_ (n := 6) (S := fun w' => w'.cell? ⟨w.heap.size + 1, 0, none⟩ = some (.int .i64 x2) ∧ w'.cell? ⟨w.heap.size + 1 + 1, 0, none⟩ = some (.int .i64 x3)) (ds := [5]) (Array.replicate 6 false) (by kernel_rfl) rfl rfl ⟨q3.trans rfl, q4.trans rfl⟩ (fun hHeld => ?_)
    ((refine rpure (i := 0) (N := some 16) (v := ?_) (a' := ?_) rfl rfl (by kernel_rfl) (fun c a w h => put_ok (by decide) c a w h) (Or.inl ⟨by rfl, ?_⟩) ?_ ?_); rotate_left; (· intro w'; go_simp; with_reducible rfl); rotate_left; (· (simp only [Act.put, List.setIfInBounds_toArray, List.set_cons_zero, List.set_cons_succ, i64_w, i32_w]; rfl)))
    ((refine rtake (i := 1) (N := some 17) (v := ?_) (a' := ?_) rfl rfl (by kernel_rfl) (fun c a w h => put_ok (by decide) c a w h) (Or.inl ⟨by rfl, ?_⟩) hHeld ?_ ?_); rotate_left; (· rintro w' ⟨s0, s1⟩; go_simp; with_reducible rfl); rotate_left; (· (simp only [Act.put, List.setIfInBounds_toArray, List.set_cons_zero, List.set_cons_succ, i64_w, i32_w]; rfl)))
    ((refine rtake (i := 2) (N := some 18) (v := ?_) (a' := ?_) rfl rfl (by kernel_rfl) (fun c a w h => put_ok (by decide) c a w h) (Or.inl ⟨by rfl, ?_⟩) hHeld ?_ ?_); rotate_left; (· rintro w' ⟨s0, s1⟩; go_simp; with_reducible rfl); rotate_left; (· (simp only [Act.put, List.setIfInBounds_toArray, List.set_cons_zero, List.set_cons_succ, i64_w, i32_w]; rfl)))
    refine rone (i := 3) (N := none) rfl rfl (by kernel_rfl) (by decide) (fun K hK => ?_)
    go_simp
    have Y2 := Aside0.mk (show (((((w2.setCell ⟨w.heap.size, 0, none⟩ (.int .i64 0)).setCell ⟨w.heap.size, 1, none⟩ (.string ⟨#[]⟩)).setCell ⟨w.heap.size, 2, none⟩ (.slice none 0 0)).setCell ⟨w.heap.size, 3, none⟩ (.int .i64 0)).drew).heap[w.heap.size]? = some (.cells zeroNd 24 (0, 0)) from (blk_set (blk_set (blk_set (blk_set X2.out 0 _) 1 _) 2 _) 3 _))
    have Y3 := Aside0.mk (show (((((w2.setCell ⟨w.heap.size, 0, none⟩ (.int .i64 0)).setCell ⟨w.heap.size, 1, none⟩ (.string ⟨#[]⟩)).setCell ⟨w.heap.size, 2, none⟩ (.slice none 0 0)).setCell ⟨w.heap.size, 3, none⟩ (.int .i64 0)).drew).heap[w.heap.size + 1]? = some (.cells #[.int .i64 x2] 3 (0, 0)) from (blk_setO (blk_setO (blk_setO (blk_setO X3.out (by omega)) (by omega)) (by omega)) (by omega)))
    have Y4 := Aside0.mk (show (((((w2.setCell ⟨w.heap.size, 0, none⟩ (.int .i64 0)).setCell ⟨w.heap.size, 1, none⟩ (.string ⟨#[]⟩)).setCell ⟨w.heap.size, 2, none⟩ (.slice none 0 0)).setCell ⟨w.heap.size, 3, none⟩ (.int .i64 0)).drew).heap[w.heap.size + 1 + 1]? = some (.cells #[.int .i64 x3] 25 (0, 0)) from (blk_setO (blk_setO (blk_setO (blk_setO X4.out (by omega)) (by omega)) (by omega)) (by omega)))
    have YK := Aside0.mk (show Kept (fun k => k = w.heap.size ∨ k = w.heap.size + 1 ∨ k = w.heap.size + 1 + 1) w1 (((((w2.setCell ⟨w.heap.size, 0, none⟩ (.int .i64 0)).setCell ⟨w.heap.size, 1, none⟩ (.string ⟨#[]⟩)).setCell ⟨w.heap.size, 2, none⟩ (.slice none 0 0)).setCell ⟨w.heap.size, 3, none⟩ (.int .i64 0)).drew) from (XK.out.trans (stored_kept w2 w.heap.size (w.heap.size + 1) (w.heap.size + 1 + 1) _ _ _ _) (fun _ _ q => q)).drew)
    clear q2 q3 q4 f2 f3 f4 X2 X3 X4 XK
    generalize (((((w2.setCell ⟨w.heap.size, 0, none⟩ (.int .i64 0)).setCell ⟨w.heap.size, 1, none⟩ (.string ⟨#[]⟩)).setCell ⟨w.heap.size, 2, none⟩ (.slice none 0 0)).setCell ⟨w.heap.size, 3, none⟩ (.int .i64 0)).drew) = w3 at Y2 Y3 Y4 YK ⊢
    have q2 := fun i => blk_cell Y2.out i
    have q3 := blk_cell Y3.out 0
    have q4 := blk_cell Y4.out 0
    have f2 := fun i => blk_frozen Y2.out i
    have f3 := blk_frozen Y3.out 0
    have f4 := blk_frozen Y4.out 0
    refine hK _ _ ⟨q3.trans rfl, q4.trans rfl⟩ (fun hHeld => ?_)
    clear hK K
    refine rone (i := 4) (N := none) rfl rfl (by kernel_rfl) (by decide) (fun K hK => ?_)
    go_simp
    have V2 := Aside0.mk (show (w3.setCell ⟨w.heap.size + 1, 0, none⟩ (.int .i64 x2)).heap[w.heap.size]? = some (.cells zeroNd 24 (0, 0)) from blk_setO Y2.out (by omega))
    have V3 := Aside0.mk (show (w3.setCell ⟨w.heap.size + 1, 0, none⟩ (.int .i64 x2)).heap[w.heap.size + 1]? = some (.cells #[.int .i64 x2] 3 (0, 0)) from blk_set Y3.out 0 _)
    have V4 := Aside0.mk (show (w3.setCell ⟨w.heap.size + 1, 0, none⟩ (.int .i64 x2)).heap[w.heap.size + 1 + 1]? = some (.cells #[.int .i64 x3] 25 (0, 0)) from blk_setO Y4.out (by omega))
    have VK := Aside0.mk (show Kept (fun k => k = w.heap.size ∨ k = w.heap.size + 1 ∨ k = w.heap.size + 1 + 1) w1 (w3.setCell ⟨w.heap.size + 1, 0, none⟩ (.int .i64 x2)) from YK.out.setCell (w.heap.size + 1) 0 _ (Or.inl (Or.inr (Or.inl rfl))))
    clear q2 q3 q4 f2 f3 f4 Y2 Y3 Y4 YK
    generalize (w3.setCell ⟨w.heap.size + 1, 0, none⟩ (.int .i64 x2)) = w4 at V2 V3 V4 VK ⊢
    have q4 := blk_cell V4.out 0
    have f4 := blk_frozen V4.out 0
    refine hK _ _ ⟨(blk_cell V3.out 0).trans rfl, q4.trans rfl⟩ (fun hHeld => ?_)
    clear hK K
    refine rlast (i := 5) (N := none) rfl rfl (by kernel_rfl) (by decide) (fun K hK => ?_)
    rw [if_pos (by rfl)]
    unfold Oper.wp
    go_simp
    refine hK _ _ (done_ (by kernel_rfl) ?_)
    clear hK K hHeld
    go_wp2_with (fail)
    have hfin := (VK.out.setCell (w.heap.size + 1 + 1) 0 (.int .i64 x3) (Or.inl (Or.inr (Or.inr rfl))))
    exact ⟨_, parse_results (b2 := w.heap.size) (b3 := w.heap.size + 1) (b4 := w.heap.size + 1 + 1) (n := zeroN) (A := none) (c := 0) (pos := x2) (why := x3) rfl rfl rfl (blk_setO V2.out (by omega)) (blk_setO V3.out (by omega)) (blk_set V4.out 0 _), parse_thrown (g1 := w.heap.size) HB1.out (Kept.refl _ w1) (Nat.le_refl _) hfin (by omega) (by omega) (by omega) hff⟩
end Go.Proofs.YtnjoncbgekonbaaDoor.PExpr
end
section
namespace Go.Proofs.YtnjoncbgekonbaaDoor.PExpr
open Go.RowKit Go.Proofs.YtnjoncbgekonbaaDoorW.PrintWords Go.Proofs.YtnjoncbgekonbaaDoorW.PrintLast Go.Proofs.YtnjoncbgekonbaaDoorW.PrintMore
attribute [local go_sem] max2_int min2_int max_two min_two max_three min_three max_four min_four   -- for this text's walks alone
set_option linter.unusedVariables false
set_option linter.unusedSimpArgs false
mutual
def expr_Steps.l0 : Nat → Int → List (S24) → Int → Int → Int → ByteArray → List (S24) → Int → Option (Int)
  | 0, _, _, _, _, _, _, _, _ => none
  | k + 1, x3, x7, x8, x9, x146000, x146001, x146002, x146003 => if x9 < x8 then (if 0 ≤ x9 then (if x9 < (x7.length : Int) then (if x146000 = 5 then (expr_Steps.l0 k x3 x7 x8 (wrap64 (x9 + 1)) x146000 x146001 x146002 x146003) else ((expr_Steps.f k ((rd_T24 x7 x9).f0) ((rd_T24 x7 x9).f1) ((rd_T24 x7 x9).f2) ((rd_T24 x7 x9).f3)).bind fun t148 => (expr_Steps.l0 k (wrap64 (x3 + t148)) x7 x8 (wrap64 (x9 + 1)) x146000 x146001 x146002 x146003))) else (none)) else (none)) else (some x3)
def expr_Steps.f : Nat → Int → ByteArray → List (S24) → Int → Option (Int)
  | 0, _, _, _, _ => none
  | k + 1, a0_0, a0_1, l0_2, a0_3 => expr_Steps.l0 k 1 l0_2 (l0_2.length : Int) 0 a0_0 a0_1 l0_2 a0_3
end
theorem expr_Steps.mono_l : ∀ k, (∀ y0 y1 y2 y3, LeO (expr_Steps.f k y0 y1 y2 y3) (expr_Steps.f (k + 1) y0 y1 y2 y3)) ∧ (∀ y0 y1 y2 y3 y4 y5 y6 y7, LeO (expr_Steps.l0 k y0 y1 y2 y3 y4 y5 y6 y7) (expr_Steps.l0 (k + 1) y0 y1 y2 y3 y4 y5 y6 y7))
  | 0 => ⟨fun _ _ _ _ r h => by simp [expr_Steps.f] at h, fun _ _ _ _ _ _ _ _ r h => by simp [expr_Steps.l0] at h⟩
  | k + 1 => by
    obtain ⟨ih0, ih1⟩ := expr_Steps.mono_l k
    refine ⟨?_, ?_⟩
    · intro y0 y1 y2 y3
      unfold expr_Steps.f
      repeat' first
      | (with_reducible exact ih0 _ _ _ _)
      | (with_reducible exact ih1 _ _ _ _ _ _ _ _)
      | (with_reducible exact LeO.refl _)
      | (with_reducible exact LeO.none _)
      | (with_reducible refine LeO.ite ?_ ?_)
      | (with_reducible refine LeO.bind ?_ (fun _ => ?_))
      | exact ih0 _ _ _ _
      | exact ih1 _ _ _ _ _ _ _ _
      | exact LeO.none _
      | refine LeO.ite ?_ ?_
      | refine LeO.bind ?_ (fun _ => ?_)
    · intro y0 y1 y2 y3 y4 y5 y6 y7
      unfold expr_Steps.l0
      repeat' first
      | (with_reducible exact ih0 _ _ _ _)
      | (with_reducible exact ih1 _ _ _ _ _ _ _ _)
      | (with_reducible exact LeO.refl _)
      | (with_reducible exact LeO.none _)
      | (with_reducible refine LeO.ite ?_ ?_)
      | (with_reducible refine LeO.bind ?_ (fun _ => ?_))
      | exact ih0 _ _ _ _
      | exact ih1 _ _ _ _ _ _ _ _
      | exact LeO.none _
      | refine LeO.ite ?_ ?_
      | refine LeO.bind ?_ (fun _ => ?_)
theorem expr_Steps.mono : ∀ a0 a1 a2 a3 k, LeO (expr_Steps.f k a0 a1 a2 a3) (expr_Steps.f (k + 1) a0 a1 a2 a3) := by
  intro a0 a1 a2 a3 k
  obtain ⟨ih0, ih1⟩ := expr_Steps.mono_l k
  exact ih0 a0 a1 a2 a3
set_option maxHeartbeats 8000000 in
set_option maxRecDepth 100000 in
theorem expr_Steps.calls (k : Nat) : ∀ (a0_0 : Int) (a0_1 : ByteArray) (A0_2 : Option Addr) (c0_2 : Nat) (l0_2 : List (S24)) (a0_3 : Int) (r : Int) (w : World) (hr0_2 : Kd.C k24 w A0_2 l0_2.length l0_2) (hc0_2 : l0_2.length ≤ c0_2) (h : expr_Steps.f k a0_0 a0_1 l0_2 a0_3 = some r),
    Calls Tryd.prog 17 #[.agg #[.int .i64 a0_0, .string a0_1, .slice A0_2 l0_2.length c0_2, .int .i64 a0_3]] w fun e w' => e = .returned (.int .i64 r) ∧ Below w.heap.size w w' := by
  induction k using Nat.strongRecOn with
  | _ k ih =>
  intro a0_0 a0_1 A0_2 c0_2 l0_2 a0_3 r w hr0_2 hc0_2 h
  cases k with
  | zero => exact absurd h (by simp [expr_Steps.f])
  | succ k =>
  simp only [expr_Steps.f] at h
  have hu24 := Tryd.underlying24
  have HR0_2 := Aside0.mk hr0_2
  have HC0_2 := Aside0.mk hc0_2
  clear hr0_2 hc0_2
  have HB := Aside0.mk (Below.refl w.heap.size w)
  have H : (expr_Steps.l0 k 1 l0_2 (l0_2.length : Int) 0 a0_0 a0_1 l0_2 a0_3) = some r := h
  clear h
  have H' := Aside0.mk H
  clear H
  go_enter Tryd.func17, Tryd.ntmps17
  go_wp2_with (first | ((with_reducible refine gate_dst (N := 1) rfl ?_); refine box_event ?hg (N := 1) ?hd (cs := #[.int .i64 a0_0, .string a0_1, .slice A0_2 l0_2.length c0_2, .int .i64 a0_3]) (t := 24) ?hr ?_; (case hd => rfl); (case hg => rfl); (case hr => first | (go_simp; done) | (go_simp; rfl)); intro gb145 hg w2 hbox hb; have n0_ := Aside0.mk (below_step (by repeat (first | (with_reducible first | exact HB.out | apply below_alloc | apply pw_below_drewN | apply below_drew1) | exact HB.out)) hb); have n1_ := Aside0.mk (hbox); have n2_ := Aside0.mk ((by rw [hg]; exact (below_size (by repeat (first | (with_reducible first | exact HB.out | apply below_alloc | apply pw_below_drewN | apply below_drew1) | exact HB.out))) : w.heap.size ≤ gb145)); have n3_ := Aside0.mk ((by rw [hg]; exact (below_size (by repeat (first | (with_reducible first | exact HB.out | apply below_alloc | apply pw_below_drewN | apply below_drew1) | exact HB.out))) : w.heap.size ≤ gb145)); clear HB; have HB := n0_; have BK145 := n1_; have GW145 := n2_; have GE145 := n3_; clear n0_ n1_ n2_ n3_; clear hb hbox hg; have hcz3_0 : w2.cell? ⟨gb145, 0, none⟩ = some (.int .i64 a0_0) := (blk_cell BK145.out 0).trans rfl; have hcz3_1 : w2.cell? ⟨gb145, 1, none⟩ = some (.string a0_1) := (blk_cell BK145.out 1).trans rfl; have hcz3_2 : w2.cell? ⟨gb145, 2, none⟩ = some (.slice A0_2 l0_2.length c0_2) := (blk_cell BK145.out 2).trans rfl; have hcz3_3 : w2.cell? ⟨gb145, 3, none⟩ = some (.int .i64 a0_3) := (blk_cell BK145.out 3).trans rfl; have hfz3_0 := blk_frozen BK145.out 0; have hfz3_1 := blk_frozen BK145.out 1; have hfz3_2 := blk_frozen BK145.out 2; have hfz3_3 := blk_frozen BK145.out 3))
  go_loopg [3, 9] k (fun kq v3 v9 w' => ∃ (x3_1 : Int) (x9_1 : Int), v3 = .int .i64 x3_1 ∧ v9 = .int .i64 x9_1 ∧ Aside0 (expr_Steps.l0 kq x3_1 l0_2 (l0_2.length : Int) x9_1 a0_0 a0_1 l0_2 a0_3 = some r) ∧ Aside0 (kq ≤ k) ∧ Aside0 (w'.heap[gb145]? = some (.cells #[.int .i64 a0_0, .string a0_1, (.slice A0_2 l0_2.length c0_2), .int .i64 a0_3] 24 (0, 0))) ∧ Aside0 (Below w.heap.size w w'))
  case atStart => exact ⟨(1), (0), (by first | rfl | (simp; done) | (simp [*]; done)), (by first | rfl | (simp; done) | (simp [*]; done)), H', ⟨Nat.le_refl _⟩, ⟨by (with_reducible repeat (first | refine blk_drewN ?_ _ | refine blk_drew ?_ | refine blk_alloc ?_ _)); exact BK145.out⟩, ⟨by repeat (first | (with_reducible first | exact HB.out | apply below_alloc | apply pw_below_drewN | apply below_drew1 | refine below_set ?_ GE145.out) | exact HB.out)⟩⟩
  case round =>
    clear H'
    try clear c1
    try clear p2
    try clear hcz3_0
    try clear hcz3_1
    try clear hcz3_2
    try clear hcz3_3
    try clear hfz3_0
    try clear hfz3_1
    try clear hfz3_2
    try clear hfz3_3
    obtain ⟨x3_1, x9_1, rfl, rfl, HA, HK1, BK145, HB⟩ := hrel
    cases gk with
    | zero => exact absurd HA.out (by simp [expr_Steps.l0])
    | succ k1 =>
      have H := HA.out
      clear HA
      simp only [expr_Steps.l0] at H
      by_cases c4 : x9_1 < (l0_2.length : Int)
      · rw [if_pos c4] at H
        have c4b0 : decide (x9_1 < (l0_2.length : Int)) = true := decide_eq_true c4
        clear c4
        by_cases c5 : 0 ≤ x9_1
        · rw [if_pos c5] at H
          have c5b0 : decide (0 ≤ x9_1) = true := decide_eq_true c5
          clear c5
          by_cases c6 : x9_1 < (l0_2.length : Int)
          · rw [if_pos c6] at H
            have c6b0 : decide (x9_1 < (l0_2.length : Int)) = true := decide_eq_true c6
            clear c6
            by_cases c7 : a0_0 = 5
            · rw [if_pos c7] at H
              have c7b0 : (a0_0 == 5) = true := beq_iff_eq.mpr c7
              have c7b1 : (a0_0 != 5) = false := bne_eq_false_iff_eq.mpr c7
              clear c7
              have H' := Aside0.mk H
              clear H
              have p146 : 0 ≤ (x9_1 : Int) := of_decide_eq_true (by first | (with_reducible assumption) | assumption)
              have q146 : x9_1 < (l0_2.length : Int) := of_decide_eq_true (by first | (with_reducible assumption) | assumption)
              obtain ⟨ad146, A146_2, c146_2, e146, hx146_0, hx146_1, hx146_2, hx146_3, hl146_2, hi146_2⟩ := at_T24 HR0_2.out x9_1 p146 q146
              cases e146
              replace hx146_0 := (HB.out.cell (World.block_lt_of_cell? w _ hx146_0)).trans hx146_0
              replace hx146_1 := (HB.out.cell (World.block_lt_of_cell? w _ hx146_1)).trans hx146_1
              replace hx146_2 := (HB.out.cell (World.block_lt_of_cell? w _ hx146_2)).trans hx146_2
              replace hx146_3 := (HB.out.cell (World.block_lt_of_cell? w _ hx146_3)).trans hx146_3
              have HR146_2 := Aside0.mk hi146_2
              have HC146_2 := Aside0.mk hl146_2
              clear hi146_2 hl146_2
              replace p146 := eq_true p146
              replace q146 := eq_true q146
              go_wp2_with (first | ((with_reducible refine gate_dst (N := 5) rfl ?_); refine box_event ?hg (N := 5) ?hd (cs := #[.int .i64 0, .string (⟨#[]⟩ : ByteArray), .slice none 0 0, .int .i64 0]) (t := 24) ?hr ?_; (case hd => rfl); (case hg => rfl); (case hr => first | (go_simp; done) | (go_simp; rfl)); intro gb147 hg w8 hbox hb; have n0_ := Aside0.mk (blk_below (g := gb145) (o := .cells #[.int .i64 a0_0, .string a0_1, .slice (some ad146) l0_2.length c0_2, .int .i64 a0_3] 24 (0, 0)) (by (with_reducible repeat (first | refine blk_drewN ?_ _ | refine blk_drew ?_ | refine blk_alloc ?_ _)); exact BK145.out) hb); have n1_ := Aside0.mk (below_step (by repeat (first | (with_reducible first | exact HB.out | apply below_alloc | apply pw_below_drewN | apply below_drew1 | refine below_set ?_ GE145.out) | exact HB.out)) hb); have n2_ := Aside0.mk (hbox); have n3_ := Aside0.mk ((by rw [hg]; exact (below_size (by repeat (first | (with_reducible first | exact HB.out | apply below_alloc | apply pw_below_drewN | apply below_drew1 | refine below_set ?_ GE145.out) | exact HB.out))) : w.heap.size ≤ gb147)); have n4_ := Aside0.mk ((by rw [hg]; exact (below_size (by repeat (first | (with_reducible first | exact HB.out | apply below_alloc | apply pw_below_drewN | apply below_drew1 | refine below_set ?_ GE145.out) | exact HB.out))) : w.heap.size ≤ gb147)); have n5_ := Aside0.mk ((by rw [hg]; exact Nat.ne_of_lt (blk_lt (g := gb145) (o := .cells #[.int .i64 a0_0, .string a0_1, .slice (some ad146) l0_2.length c0_2, .int .i64 a0_3] 24 (0, 0)) (by (with_reducible repeat (first | refine blk_drewN ?_ _ | refine blk_drew ?_ | refine blk_alloc ?_ _)); exact BK145.out)) : gb145 ≠ gb147)); have n6_ := Aside0.mk ((by rw [hg]; exact Nat.ne_of_gt (blk_lt (g := gb145) (o := .cells #[.int .i64 a0_0, .string a0_1, .slice (some ad146) l0_2.length c0_2, .int .i64 a0_3] 24 (0, 0)) (by (with_reducible repeat (first | refine blk_drewN ?_ _ | refine blk_drew ?_ | refine blk_alloc ?_ _)); exact BK145.out)) : gb147 ≠ gb145)); clear BK145; clear HB; have BK145 := n0_; have HB := n1_; have BK147 := n2_; have GW147 := n3_; have GE147 := n4_; have NB145_147 := n5_; have NB147_145 := n6_; clear n0_ n1_ n2_ n3_ n4_ n5_ n6_; clear hb hbox hg; have hnb9 := NB147_145.out; have hnc9 := NB145_147.out; have hcz10_0 : w8.cell? ⟨gb147, 0, none⟩ = some (.int .i64 0) := (blk_cell BK147.out 0).trans rfl; have hcz10_1 : w8.cell? ⟨gb147, 1, none⟩ = some (.string (⟨#[]⟩ : ByteArray)) := (blk_cell BK147.out 1).trans rfl; have hcz10_2 : w8.cell? ⟨gb147, 2, none⟩ = some (.slice none 0 0) := (blk_cell BK147.out 2).trans rfl; have hcz10_3 : w8.cell? ⟨gb147, 3, none⟩ = some (.int .i64 0) := (blk_cell BK147.out 3).trans rfl; have hfz10_0 := blk_frozen BK147.out 0; have hfz10_1 := blk_frozen BK147.out 1; have hfz10_2 := blk_frozen BK147.out 2; have hfz10_3 := blk_frozen BK147.out 3; have hcz11_0 : w8.cell? ⟨gb145, 0, none⟩ = some (.int .i64 a0_0) := (blk_cell BK145.out 0).trans rfl; have hcz11_1 : w8.cell? ⟨gb145, 1, none⟩ = some (.string a0_1) := (blk_cell BK145.out 1).trans rfl; have hcz11_2 : w8.cell? ⟨gb145, 2, none⟩ = some (.slice (some ad146) l0_2.length c0_2) := (blk_cell BK145.out 2).trans rfl; have hcz11_3 : w8.cell? ⟨gb145, 3, none⟩ = some (.int .i64 a0_3) := (blk_cell BK145.out 3).trans rfl; have hfz11_0 := blk_frozen BK145.out 0; have hfz11_1 := blk_frozen BK145.out 1; have hfz11_2 := blk_frozen BK145.out 2; have hfz11_3 := blk_frozen BK145.out 3))
              go_roundg k1
              case measure => have := HK1.out; omega
              case rel => exact ⟨(x3_1), (wrap64 (x9_1 + 1)), (by first | rfl | (simp; done) | (simp [*]; done)), (by first | rfl | (simp; done) | (simp [*]; done)), H', ⟨by have := HK1.out; omega⟩, ⟨by (with_reducible repeat (first | refine blk_drewN ?_ _ | refine blk_drew ?_ | refine blk_alloc ?_ _)); refine blk_far ?_ NB145_147.out _; (with_reducible repeat (first | refine blk_drewN ?_ _ | refine blk_drew ?_ | refine blk_alloc ?_ _)); refine blk_far ?_ NB145_147.out _; (with_reducible repeat (first | refine blk_drewN ?_ _ | refine blk_drew ?_ | refine blk_alloc ?_ _)); refine blk_far ?_ NB145_147.out _; (with_reducible repeat (first | refine blk_drewN ?_ _ | refine blk_drew ?_ | refine blk_alloc ?_ _)); refine blk_far ?_ NB145_147.out _; (with_reducible repeat (first | refine blk_drewN ?_ _ | refine blk_drew ?_ | refine blk_alloc ?_ _)); exact BK145.out⟩, ⟨by repeat (first | (with_reducible first | exact HB.out | apply below_alloc | apply pw_below_drewN | apply below_drew1 | refine below_set ?_ GE145.out | refine below_set ?_ GE147.out) | exact HB.out)⟩⟩
            · rw [if_neg c7] at H
              have c7b0 : (a0_0 == 5) = false := beq_eq_false_iff_ne.mpr c7
              have c7b1 : (a0_0 != 5) = true := bne_iff_ne.mpr c7
              replace H := Option.bind_eq_some_iff.mp H
              obtain ⟨t148, A120, H⟩ := H
              replace H : (expr_Steps.l0 k1 (wrap64 (x3_1 + t148)) l0_2 (l0_2.length : Int) (wrap64 (x9_1 + 1)) a0_0 a0_1 l0_2 a0_3) = some r := H
              have A12 := Aside0.mk A120
              clear A120
              have H' := Aside0.mk H
              clear H
              have p146 : 0 ≤ (x9_1 : Int) := of_decide_eq_true (by first | (with_reducible assumption) | assumption)
              have q146 : x9_1 < (l0_2.length : Int) := of_decide_eq_true (by first | (with_reducible assumption) | assumption)
              obtain ⟨ad146, A146_2, c146_2, e146, hx146_0, hx146_1, hx146_2, hx146_3, hl146_2, hi146_2⟩ := at_T24 HR0_2.out x9_1 p146 q146
              cases e146
              replace hx146_0 := (HB.out.cell (World.block_lt_of_cell? w _ hx146_0)).trans hx146_0
              replace hx146_1 := (HB.out.cell (World.block_lt_of_cell? w _ hx146_1)).trans hx146_1
              replace hx146_2 := (HB.out.cell (World.block_lt_of_cell? w _ hx146_2)).trans hx146_2
              replace hx146_3 := (HB.out.cell (World.block_lt_of_cell? w _ hx146_3)).trans hx146_3
              have HR146_2 := Aside0.mk hi146_2
              have HC146_2 := Aside0.mk hl146_2
              clear hi146_2 hl146_2
              replace p146 := eq_true p146
              replace q146 := eq_true q146
              go_wp2_with (first | ((with_reducible refine gate_dst (N := 5) rfl ?_); refine box_event ?hg (N := 5) ?hd (cs := #[.int .i64 0, .string (⟨#[]⟩ : ByteArray), .slice none 0 0, .int .i64 0]) (t := 24) ?hr ?_; (case hd => rfl); (case hg => rfl); (case hr => first | (go_simp; done) | (go_simp; rfl)); intro gb147 hg w13 hbox hb; have n0_ := Aside0.mk (blk_below (g := gb145) (o := .cells #[.int .i64 a0_0, .string a0_1, .slice (some ad146) l0_2.length c0_2, .int .i64 a0_3] 24 (0, 0)) (by (with_reducible repeat (first | refine blk_drewN ?_ _ | refine blk_drew ?_ | refine blk_alloc ?_ _)); exact BK145.out) hb); have n1_ := Aside0.mk (below_step (by repeat (first | (with_reducible first | exact HB.out | apply below_alloc | apply pw_below_drewN | apply below_drew1 | refine below_set ?_ GE145.out) | exact HB.out)) hb); have n2_ := Aside0.mk (hbox); have n3_ := Aside0.mk ((by rw [hg]; exact (below_size (by repeat (first | (with_reducible first | exact HB.out | apply below_alloc | apply pw_below_drewN | apply below_drew1 | refine below_set ?_ GE145.out) | exact HB.out))) : w.heap.size ≤ gb147)); have n4_ := Aside0.mk ((by rw [hg]; exact (below_size (by repeat (first | (with_reducible first | exact HB.out | apply below_alloc | apply pw_below_drewN | apply below_drew1 | refine below_set ?_ GE145.out) | exact HB.out))) : w.heap.size ≤ gb147)); have n5_ := Aside0.mk ((by rw [hg]; exact Nat.ne_of_lt (blk_lt (g := gb145) (o := .cells #[.int .i64 a0_0, .string a0_1, .slice (some ad146) l0_2.length c0_2, .int .i64 a0_3] 24 (0, 0)) (by (with_reducible repeat (first | refine blk_drewN ?_ _ | refine blk_drew ?_ | refine blk_alloc ?_ _)); exact BK145.out)) : gb145 ≠ gb147)); have n6_ := Aside0.mk ((by rw [hg]; exact Nat.ne_of_gt (blk_lt (g := gb145) (o := .cells #[.int .i64 a0_0, .string a0_1, .slice (some ad146) l0_2.length c0_2, .int .i64 a0_3] 24 (0, 0)) (by (with_reducible repeat (first | refine blk_drewN ?_ _ | refine blk_drew ?_ | refine blk_alloc ?_ _)); exact BK145.out)) : gb147 ≠ gb145)); clear BK145; clear HB; have BK145 := n0_; have HB := n1_; have BK147 := n2_; have GW147 := n3_; have GE147 := n4_; have NB145_147 := n5_; have NB147_145 := n6_; clear n0_ n1_ n2_ n3_ n4_ n5_ n6_; clear hb hbox hg; have hnb14 := NB147_145.out; have hnc14 := NB145_147.out; have hcz15_0 : w13.cell? ⟨gb147, 0, none⟩ = some (.int .i64 0) := (blk_cell BK147.out 0).trans rfl; have hcz15_1 : w13.cell? ⟨gb147, 1, none⟩ = some (.string (⟨#[]⟩ : ByteArray)) := (blk_cell BK147.out 1).trans rfl; have hcz15_2 : w13.cell? ⟨gb147, 2, none⟩ = some (.slice none 0 0) := (blk_cell BK147.out 2).trans rfl; have hcz15_3 : w13.cell? ⟨gb147, 3, none⟩ = some (.int .i64 0) := (blk_cell BK147.out 3).trans rfl; have hfz15_0 := blk_frozen BK147.out 0; have hfz15_1 := blk_frozen BK147.out 1; have hfz15_2 := blk_frozen BK147.out 2; have hfz15_3 := blk_frozen BK147.out 3; have hcz16_0 : w13.cell? ⟨gb145, 0, none⟩ = some (.int .i64 a0_0) := (blk_cell BK145.out 0).trans rfl; have hcz16_1 : w13.cell? ⟨gb145, 1, none⟩ = some (.string a0_1) := (blk_cell BK145.out 1).trans rfl; have hcz16_2 : w13.cell? ⟨gb145, 2, none⟩ = some (.slice (some ad146) l0_2.length c0_2) := (blk_cell BK145.out 2).trans rfl; have hcz16_3 : w13.cell? ⟨gb145, 3, none⟩ = some (.int .i64 a0_3) := (blk_cell BK145.out 3).trans rfl; have hfz16_0 := blk_frozen BK145.out 0; have hfz16_1 := blk_frozen BK145.out 1; have hfz16_2 := blk_frozen BK145.out 2; have hfz16_3 := blk_frozen BK145.out 3) | ((with_reducible refine gate_callee (f := 17) rfl ?_); refine goesL_ (some 18) rfl rfl Tryd.func17 (by kernel_rfl) rfl #[.agg #[.int .i64 ((rd_T24 l0_2 x9_1).f0), .string ((rd_T24 l0_2 x9_1).f1), .slice A146_2 ((rd_T24 l0_2 x9_1).f2).length c146_2, .int .i64 ((rd_T24 l0_2 x9_1).f3)]] rfl (by (try simp only [List.map_toArray, List.map_cons, List.map_nil]); first | done | rfl | (simp only [List.length_drop, List.length_take]; rfl)) ?_; (with_reducible refine (ih k1 (by have := HK1.out; omega) ((rd_T24 l0_2 x9_1).f0) ((rd_T24 l0_2 x9_1).f1) _ _ ((rd_T24 l0_2 x9_1).f2) ((rd_T24 l0_2 x9_1).f3) t148 _ ?side1 ?side2 A12.out).mono ?_); (case side1 => exact Kd.C_below HR146_2.out (by repeat (first | (with_reducible first | exact HB.out | apply below_alloc | apply pw_below_drewN | apply below_drew1 | refine below_set ?_ GE145.out | refine below_set ?_ GE147.out) | exact HB.out))); (case side2 => exact HC146_2.out); rintro e w17 ⟨rfl, hb⟩; refine ⟨_, rfl, ?_⟩; have n0_ := Aside0.mk (blk_below (g := gb145) (o := .cells #[.int .i64 a0_0, .string a0_1, .slice (some ad146) l0_2.length c0_2, .int .i64 a0_3] 24 (0, 0)) (by (with_reducible repeat (first | refine blk_drewN ?_ _ | refine blk_drew ?_ | refine blk_alloc ?_ _)); refine blk_far ?_ NB145_147.out _; (with_reducible repeat (first | refine blk_drewN ?_ _ | refine blk_drew ?_ | refine blk_alloc ?_ _)); refine blk_far ?_ NB145_147.out _; (with_reducible repeat (first | refine blk_drewN ?_ _ | refine blk_drew ?_ | refine blk_alloc ?_ _)); refine blk_far ?_ NB145_147.out _; (with_reducible repeat (first | refine blk_drewN ?_ _ | refine blk_drew ?_ | refine blk_alloc ?_ _)); refine blk_far ?_ NB145_147.out _; (with_reducible repeat (first | refine blk_drewN ?_ _ | refine blk_drew ?_ | refine blk_alloc ?_ _)); exact BK145.out) hb); have n1_ := Aside0.mk (blk_below (g := gb147) (o := .cells #[.int .i64 ((rd_T24 l0_2 x9_1).f0), .string ((rd_T24 l0_2 x9_1).f1), .slice A146_2 ((rd_T24 l0_2 x9_1).f2).length c146_2, .int .i64 ((rd_T24 l0_2 x9_1).f3)] 24 (0, 0)) (by (with_reducible repeat (first | refine blk_drewN ?_ _ | refine blk_drew ?_ | refine blk_alloc ?_ _)); refine blk_put (cs := #[.int .i64 ((rd_T24 l0_2 x9_1).f0), .string ((rd_T24 l0_2 x9_1).f1), .slice A146_2 ((rd_T24 l0_2 x9_1).f2).length c146_2, .int .i64 0]) ?_ 3 _ rfl; (with_reducible repeat (first | refine blk_drewN ?_ _ | refine blk_drew ?_ | refine blk_alloc ?_ _)); refine blk_put (cs := #[.int .i64 ((rd_T24 l0_2 x9_1).f0), .string ((rd_T24 l0_2 x9_1).f1), .slice none 0 0, .int .i64 0]) ?_ 2 _ rfl; (with_reducible repeat (first | refine blk_drewN ?_ _ | refine blk_drew ?_ | refine blk_alloc ?_ _)); refine blk_put (cs := #[.int .i64 ((rd_T24 l0_2 x9_1).f0), .string (⟨#[]⟩ : ByteArray), .slice none 0 0, .int .i64 0]) ?_ 1 _ rfl; (with_reducible repeat (first | refine blk_drewN ?_ _ | refine blk_drew ?_ | refine blk_alloc ?_ _)); refine blk_put (cs := #[.int .i64 0, .string (⟨#[]⟩ : ByteArray), .slice none 0 0, .int .i64 0]) ?_ 0 _ rfl; (with_reducible repeat (first | refine blk_drewN ?_ _ | refine blk_drew ?_ | refine blk_alloc ?_ _)); exact BK147.out) hb); have n2_ := Aside0.mk (below_step (by repeat (first | (with_reducible first | exact HB.out | apply below_alloc | apply pw_below_drewN | apply below_drew1 | refine below_set ?_ GE145.out | refine below_set ?_ GE147.out) | exact HB.out)) hb); clear BK145; clear BK147; clear HB; have BK145 := n0_; have BK147 := n1_; have HB := n2_; clear n0_ n1_ n2_; (try clear hb); (try clear hb2); (try clear hk); (try clear hi)))
              go_roundg k1
              case measure => have := HK1.out; omega
              case rel => exact ⟨(wrap64 (x3_1 + t148)), (wrap64 (x9_1 + 1)), (by first | rfl | (simp; done) | (simp [*]; done)), (by first | rfl | (simp; done) | (simp [*]; done)), H', ⟨by have := HK1.out; omega⟩, ⟨by (with_reducible repeat (first | refine blk_drewN ?_ _ | refine blk_drew ?_ | refine blk_alloc ?_ _)); exact BK145.out⟩, ⟨by repeat (first | (with_reducible first | exact HB.out | apply below_alloc | apply pw_below_drewN | apply below_drew1 | refine below_set ?_ GE145.out | refine below_set ?_ GE147.out) | exact HB.out)⟩⟩
          · rw [if_neg c6] at H
            exact absurd H (by simp)
        · rw [if_neg c5] at H
          exact absurd H (by simp)
      · rw [if_neg c4] at H
        have c4b0 : decide (x9_1 < (l0_2.length : Int)) = false := decide_eq_false c4
        clear c4
        obtain rfl := Option.some.inj H
        go_wp2
        go_ret
        exact ⟨by first | rfl | (simp [errW_none, errW_some] <;> rfl) | (simp [*, errW_none, errW_some] <;> rfl), by repeat (first | (with_reducible first | exact HB.out | apply below_alloc | apply pw_below_drewN | apply below_drew1 | refine below_set ?_ GE145.out) | exact HB.out)⟩
end Go.Proofs.YtnjoncbgekonbaaDoor.PExpr
end
section
namespace Go.Proofs.YtnjoncbgekonbaaDoor.PExpr
open Go.RowKit Go.Proofs.YtnjoncbgekonbaaDoorW.PrintWords Go.Proofs.YtnjoncbgekonbaaDoorW.PrintLast Go.Proofs.YtnjoncbgekonbaaDoorW.PrintMore
attribute [local go_sem] max2_int min2_int max_two min_two max_three min_three max_four min_four   -- for this text's walks alone
set_option linter.unusedVariables false
set_option linter.unusedSimpArgs false
mutual
def computusref22_Same.j0 : Nat → Bool → Bool → Int → ByteArray → List (S32) → Int → Int → ByteArray → List (S32) → Int → Option (Bool)
  | 0, _, _, _, _, _, _, _, _, _, _ => none
  | k + 1, x2, x38, x150000, x150001, x150002, x150003, x151000, x151001, x151002, x151003 => if x38 = true then (some false) else (computusref22_Same.l0 k x2 0 x150000 x150001 x150002 x150003 x151000 x151001 x151002 x151003)
def computusref22_Same.l0 : Nat → Bool → Int → Int → ByteArray → List (S32) → Int → Int → ByteArray → List (S32) → Int → Option (Bool)
  | 0, _, _, _, _, _, _, _, _, _, _ => none
  | k + 1, x2, x7, x150000, x150001, x150002, x150003, x151000, x151001, x151002, x151003 => if x7 < (x150002.length : Int) then (if 0 ≤ x7 then (if x7 < (x151002.length : Int) then ((computusref22_Same.f k ((rd_T32 x150002 x7).f0) ((rd_T32 x150002 x7).f1) ((rd_T32 x150002 x7).f2) ((rd_T32 x150002 x7).f3) ((rd_T32 x151002 x7).f0) ((rd_T32 x151002 x7).f1) ((rd_T32 x151002 x7).f2) ((rd_T32 x151002 x7).f3) x2).bind fun t153 => (if t153 = true then (computusref22_Same.l0 k x2 (wrap64 (x7 + 1)) x150000 x150001 x150002 x150003 x151000 x151001 x151002 x151003) else (some false))) else (none)) else (none)) else (some true)
def computusref22_Same.f : Nat → Int → ByteArray → List (S32) → Int → Int → ByteArray → List (S32) → Int → Bool → Option (Bool)
  | 0, _, _, _, _, _, _, _, _, _ => none
  | k + 1, a0_0, a0_1, l0_2, a0_3, a1_0, a1_1, l1_2, a1_3, a2 => if a0_0 = a1_0 then (if a0_1.toList = a1_1.toList then (if (l0_2.length : Int) = (l1_2.length : Int) then (if a2 = true then (computusref22_Same.j0 k a2 (a0_3 != a1_3) a0_0 a0_1 l0_2 a0_3 a1_0 a1_1 l1_2 a1_3) else (computusref22_Same.j0 k a2 false a0_0 a0_1 l0_2 a0_3 a1_0 a1_1 l1_2 a1_3)) else (computusref22_Same.j0 k a2 true a0_0 a0_1 l0_2 a0_3 a1_0 a1_1 l1_2 a1_3)) else (computusref22_Same.j0 k a2 true a0_0 a0_1 l0_2 a0_3 a1_0 a1_1 l1_2 a1_3)) else (computusref22_Same.j0 k a2 true a0_0 a0_1 l0_2 a0_3 a1_0 a1_1 l1_2 a1_3)
end
theorem computusref22_Same.mono_l : ∀ k, (∀ y0 y1 y2 y3 y4 y5 y6 y7 y8, LeO (computusref22_Same.f k y0 y1 y2 y3 y4 y5 y6 y7 y8) (computusref22_Same.f (k + 1) y0 y1 y2 y3 y4 y5 y6 y7 y8)) ∧ (∀ y0 y1 y2 y3 y4 y5 y6 y7 y8 y9, LeO (computusref22_Same.j0 k y0 y1 y2 y3 y4 y5 y6 y7 y8 y9) (computusref22_Same.j0 (k + 1) y0 y1 y2 y3 y4 y5 y6 y7 y8 y9)) ∧ (∀ y0 y1 y2 y3 y4 y5 y6 y7 y8 y9, LeO (computusref22_Same.l0 k y0 y1 y2 y3 y4 y5 y6 y7 y8 y9) (computusref22_Same.l0 (k + 1) y0 y1 y2 y3 y4 y5 y6 y7 y8 y9))
  | 0 => ⟨fun _ _ _ _ _ _ _ _ _ r h => by simp [computusref22_Same.f] at h, fun _ _ _ _ _ _ _ _ _ _ r h => by simp [computusref22_Same.j0] at h, fun _ _ _ _ _ _ _ _ _ _ r h => by simp [computusref22_Same.l0] at h⟩
  | k + 1 => by
    obtain ⟨ih0, ih1, ih2⟩ := computusref22_Same.mono_l k
    refine ⟨?_, ?_, ?_⟩
    · intro y0 y1 y2 y3 y4 y5 y6 y7 y8
      unfold computusref22_Same.f
      repeat' first
      | (with_reducible exact ih0 _ _ _ _ _ _ _ _ _)
      | (with_reducible exact ih1 _ _ _ _ _ _ _ _ _ _)
      | (with_reducible exact ih2 _ _ _ _ _ _ _ _ _ _)
      | (with_reducible exact LeO.refl _)
      | (with_reducible exact LeO.none _)
      | (with_reducible refine LeO.ite ?_ ?_)
      | (with_reducible refine LeO.bind ?_ (fun _ => ?_))
      | exact ih0 _ _ _ _ _ _ _ _ _
      | exact ih1 _ _ _ _ _ _ _ _ _ _
      | exact ih2 _ _ _ _ _ _ _ _ _ _
      | exact LeO.none _
      | refine LeO.ite ?_ ?_
      | refine LeO.bind ?_ (fun _ => ?_)
    · intro y0 y1 y2 y3 y4 y5 y6 y7 y8 y9
      unfold computusref22_Same.j0
      repeat' first
      | (with_reducible exact ih0 _ _ _ _ _ _ _ _ _)
      | (with_reducible exact ih1 _ _ _ _ _ _ _ _ _ _)
      | (with_reducible exact ih2 _ _ _ _ _ _ _ _ _ _)
      | (with_reducible exact LeO.refl _)
      | (with_reducible exact LeO.none _)
      | (with_reducible refine LeO.ite ?_ ?_)
      | (with_reducible refine LeO.bind ?_ (fun _ => ?_))
      | exact ih0 _ _ _ _ _ _ _ _ _
      | exact ih1 _ _ _ _ _ _ _ _ _ _
      | exact ih2 _ _ _ _ _ _ _ _ _ _
      | exact LeO.none _
      | refine LeO.ite ?_ ?_
      | refine LeO.bind ?_ (fun _ => ?_)
    · intro y0 y1 y2 y3 y4 y5 y6 y7 y8 y9
      unfold computusref22_Same.l0
      repeat' first
      | (with_reducible exact ih0 _ _ _ _ _ _ _ _ _)
      | (with_reducible exact ih1 _ _ _ _ _ _ _ _ _ _)
      | (with_reducible exact ih2 _ _ _ _ _ _ _ _ _ _)
      | (with_reducible exact LeO.refl _)
      | (with_reducible exact LeO.none _)
      | (with_reducible refine LeO.ite ?_ ?_)
      | (with_reducible refine LeO.bind ?_ (fun _ => ?_))
      | exact ih0 _ _ _ _ _ _ _ _ _
      | exact ih1 _ _ _ _ _ _ _ _ _ _
      | exact ih2 _ _ _ _ _ _ _ _ _ _
      | exact LeO.none _
      | refine LeO.ite ?_ ?_
      | refine LeO.bind ?_ (fun _ => ?_)
theorem computusref22_Same.mono : ∀ a0 a1 a2 a3 a4 a5 a6 a7 a8 k, LeO (computusref22_Same.f k a0 a1 a2 a3 a4 a5 a6 a7 a8) (computusref22_Same.f (k + 1) a0 a1 a2 a3 a4 a5 a6 a7 a8) := by
  intro a0 a1 a2 a3 a4 a5 a6 a7 a8 k
  obtain ⟨ih0, ih1, ih2⟩ := computusref22_Same.mono_l k
  exact ih0 a0 a1 a2 a3 a4 a5 a6 a7 a8
def computusref22_Same.T6 : Bool × List (List Nat × List Nat) := (true, [([], []), ([0], [0]), ([], []), ([1, 2], [1, 2]), ([3], [3]), ([], []), ([5], [5]), ([], []), ([6, 7], [6, 7]), ([8], [8]), ([], []), ([4, 9, 10], [4, 9, 10]), ([11], [11])])
def computusref22_Same.B6 : List Nat := [0, 1, 0, 7, 15, 0, 32, 0, 224, 480, 0, 2047, 4095]
theorem computusref22_Same.tab6 : rtab .any (opsOf Tryd.f8 6) = computusref22_Same.T6 := by kernel_rfl
theorem computusref22_Same.bits6 : waitsOk computusref22_Same.T6.2 computusref22_Same.B6 = true := by kernel_rfl
set_option maxHeartbeats 8000000 in
set_option maxRecDepth 100000 in
theorem computusref22_Same.calls (k : Nat) : ∀ (a0_0 : Int) (a0_1 : ByteArray) (A0_2 : Option Addr) (c0_2 : Nat) (l0_2 : List (S32)) (a0_3 : Int) (a1_0 : Int) (a1_1 : ByteArray) (A1_2 : Option Addr) (c1_2 : Nat) (l1_2 : List (S32)) (a1_3 : Int) (a2 : Bool) (r : Bool) (w : World) (hr0_2 : Kd.C k32 w A0_2 l0_2.length l0_2) (hc0_2 : l0_2.length ≤ c0_2) (hr1_2 : Kd.C k32 w A1_2 l1_2.length l1_2) (hc1_2 : l1_2.length ≤ c1_2) (h : computusref22_Same.f k a0_0 a0_1 l0_2 a0_3 a1_0 a1_1 l1_2 a1_3 a2 = some r),
    Calls Tryd.prog 8 #[.agg #[.int .i64 a0_0, .string a0_1, .slice A0_2 l0_2.length c0_2, .int .i64 a0_3], .agg #[.int .i64 a1_0, .string a1_1, .slice A1_2 l1_2.length c1_2, .int .i64 a1_3], .bool a2] w fun e w' => e = .returned (.bool r) ∧ Below w.heap.size w w' := by
  induction k using Nat.strongRecOn with
  | _ k ih =>
  intro a0_0 a0_1 A0_2 c0_2 l0_2 a0_3 a1_0 a1_1 A1_2 c1_2 l1_2 a1_3 a2 r w hr0_2 hc0_2 hr1_2 hc1_2 h
  cases k with
  | zero => exact absurd h (by simp [computusref22_Same.f])
  | succ k =>
  simp only [computusref22_Same.f] at h
  have hu32 := Tryd.underlying32
  have HR0_2 := Aside0.mk hr0_2
  have HC0_2 := Aside0.mk hc0_2
  clear hr0_2 hc0_2
  have HR1_2 := Aside0.mk hr1_2
  have HC1_2 := Aside0.mk hc1_2
  clear hr1_2 hc1_2
  have HB := Aside0.mk (Below.refl w.heap.size w)
  have H : (if a0_0 = a1_0 then (if a0_1.toList = a1_1.toList then (if (l0_2.length : Int) = (l1_2.length : Int) then (if a2 = true then (computusref22_Same.j0 k a2 (a0_3 != a1_3) a0_0 a0_1 l0_2 a0_3 a1_0 a1_1 l1_2 a1_3) else (computusref22_Same.j0 k a2 false a0_0 a0_1 l0_2 a0_3 a1_0 a1_1 l1_2 a1_3)) else (computusref22_Same.j0 k a2 true a0_0 a0_1 l0_2 a0_3 a1_0 a1_1 l1_2 a1_3)) else (computusref22_Same.j0 k a2 true a0_0 a0_1 l0_2 a0_3 a1_0 a1_1 l1_2 a1_3)) else (computusref22_Same.j0 k a2 true a0_0 a0_1 l0_2 a0_3 a1_0 a1_1 l1_2 a1_3)) = some r := h
  clear h
  have HC4 := Aside0.mk H
  clear H
  go_enter Tryd.func8, Tryd.ntmps8
  go_upto_region 1 with (first | ((with_reducible refine gate_dst (N := 3) rfl ?_); (try (refine gate_guard (by rfl) ?_; dsimp only)); refine box_event ?hg (N := 3) ?hd (cs := #[.int .i64 a0_0, .string a0_1, .slice A0_2 l0_2.length c0_2, .int .i64 a0_3]) (t := 32) ?hr ?_; (case hd => rfl); (case hg => rfl); (case hr => first | (go_simp; done) | (go_simp; rfl)); intro gb149 hg w5 hbox hb; have n0_ := Aside0.mk (below_step (by repeat (first | (with_reducible first | exact HB.out | apply below_alloc | apply pw_below_drewN | apply below_drew1) | exact HB.out)) hb); have n1_ := Aside0.mk (hbox); have n2_ := Aside0.mk ((by rw [hg]; exact (below_size (by repeat (first | (with_reducible first | exact HB.out | apply below_alloc | apply pw_below_drewN | apply below_drew1) | exact HB.out))) : w.heap.size ≤ gb149)); have n3_ := Aside0.mk ((by rw [hg]; exact (below_size (by repeat (first | (with_reducible first | exact HB.out | apply below_alloc | apply pw_below_drewN | apply below_drew1) | exact HB.out))) : w.heap.size ≤ gb149)); clear HB; have HB := n0_; have BK149 := n1_; have GW149 := n2_; have GE149 := n3_; clear n0_ n1_ n2_ n3_; clear hb hbox hg) | ((with_reducible refine gate_dst (N := 4) rfl ?_); (try (refine gate_guard (by rfl) ?_; dsimp only)); refine box_event ?hg (N := 4) ?hd (cs := #[.int .i64 a1_0, .string a1_1, .slice A1_2 l1_2.length c1_2, .int .i64 a1_3]) (t := 32) ?hr ?_; (case hd => rfl); (case hg => rfl); (case hr => first | (go_simp; done) | (go_simp; rfl)); intro gb150 hg w6 hbox hb; have n0_ := Aside0.mk (blk_below (g := gb149) (o := .cells #[.int .i64 a0_0, .string a0_1, .slice A0_2 l0_2.length c0_2, .int .i64 a0_3] 32 (0, 0)) (by (with_reducible repeat (first | refine blk_drewN ?_ _ | refine blk_drew ?_ | refine blk_alloc ?_ _)); exact BK149.out) hb); have n1_ := Aside0.mk (below_step (by repeat (first | (with_reducible first | exact HB.out | apply below_alloc | apply pw_below_drewN | apply below_drew1 | refine below_set ?_ GE149.out) | exact HB.out)) hb); have n2_ := Aside0.mk (hbox); have n3_ := Aside0.mk ((by rw [hg]; exact (below_size (by repeat (first | (with_reducible first | exact HB.out | apply below_alloc | apply pw_below_drewN | apply below_drew1 | refine below_set ?_ GE149.out) | exact HB.out))) : w.heap.size ≤ gb150)); have n4_ := Aside0.mk ((by rw [hg]; exact (below_size (by repeat (first | (with_reducible first | exact HB.out | apply below_alloc | apply pw_below_drewN | apply below_drew1 | refine below_set ?_ GE149.out) | exact HB.out))) : w.heap.size ≤ gb150)); have n5_ := Aside0.mk ((by rw [hg]; exact Nat.ne_of_lt (blk_lt (g := gb149) (o := .cells #[.int .i64 a0_0, .string a0_1, .slice A0_2 l0_2.length c0_2, .int .i64 a0_3] 32 (0, 0)) (by (with_reducible repeat (first | refine blk_drewN ?_ _ | refine blk_drew ?_ | refine blk_alloc ?_ _)); exact BK149.out)) : gb149 ≠ gb150)); have n6_ := Aside0.mk ((by rw [hg]; exact Nat.ne_of_gt (blk_lt (g := gb149) (o := .cells #[.int .i64 a0_0, .string a0_1, .slice A0_2 l0_2.length c0_2, .int .i64 a0_3] 32 (0, 0)) (by (with_reducible repeat (first | refine blk_drewN ?_ _ | refine blk_drew ?_ | refine blk_alloc ?_ _)); exact BK149.out)) : gb150 ≠ gb149)); clear BK149; clear HB; have BK149 := n0_; have HB := n1_; have BK150 := n2_; have GW150 := n3_; have GE150 := n4_; have NB149_150 := n5_; have NB150_149 := n6_; clear n0_ n1_ n2_ n3_ n4_ n5_ n6_; clear hb hbox hg))
  (try simp only [Act.put, List.setIfInBounds_toArray, List.set_cons_zero, List.set_cons_succ])
  go_cut [38] (fun v38 wc => ∃ (kq : Nat) (x38_3 : Bool), v38 = .bool x38_3 ∧ Aside0 (computusref22_Same.j0 kq a2 x38_3 a0_0 a0_1 l0_2 a0_3 a1_0 a1_1 l1_2 a1_3 = some r) ∧ Aside0 (kq ≤ k) ∧ Aside0 (wc.heap[gb149]? = some (.cells #[.int .i64 a0_0, .string a0_1, (.slice A0_2 l0_2.length c0_2), .int .i64 a0_3] 32 (0, 0))) ∧ Aside0 (wc.heap[gb150]? = some (.cells #[.int .i64 a1_0, .string a1_1, (.slice A1_2 l1_2.length c1_2), .int .i64 a1_3] 32 (0, 0))) ∧ Aside0 (Below w.heap.size w wc))
  case first =>
    have H := HC4.out
    clear HC4
    by_cases c7 : a0_0 = a1_0
    · rw [if_pos c7] at H
      have c7b0 : (a0_0 == a1_0) = true := beq_iff_eq.mpr c7
      have c7b1 : (a0_0 != a1_0) = false := bne_eq_false_iff_eq.mpr c7
      clear c7
      (first | rw [c7b0] | (simp only [i64_w, i32_w]; rw [c7b0]) | skip)
      by_cases c8 : a0_1.toList = a1_1.toList
      · rw [if_pos c8] at H
        have c8b0 : (a0_1.toList == a1_1.toList) = true := beq_iff_eq.mpr c8
        have c8b1 : (a0_1.toList != a1_1.toList) = false := bne_eq_false_iff_eq.mpr c8
        clear c8
        by_cases c9 : (l0_2.length : Int) = (l1_2.length : Int)
        · rw [if_pos c9] at H
          have c9b0 : ((l0_2.length : Int) == (l1_2.length : Int)) = true := beq_iff_eq.mpr c9
          have c9b1 : ((l0_2.length : Int) != (l1_2.length : Int)) = false := bne_eq_false_iff_eq.mpr c9
          have c9b2 : (l0_2.length == l1_2.length) = true := by first | simpa using c9 | (simp at c9 ⊢; omega)
          clear c9
          by_cases c10 : a2 = true
          · subst c10
            have H1 : (computusref22_Same.j0 k true (a0_3 != a1_3) a0_0 a0_1 l0_2 a0_3 a1_0 a1_1 l1_2 a1_3) = some r := by rw [if_pos rfl] at H; exact H
            clear H
            have H := H1
            clear H1
            have H' := Aside0.mk H
            clear H
            have hnb11 := NB149_150.out
            have hnc11 := NB150_149.out
            have hcz12_0 : w6.cell? ⟨gb149, 0, none⟩ = some (.int .i64 a0_0) := (blk_cell BK149.out 0).trans rfl
            have hcz12_1 : w6.cell? ⟨gb149, 1, none⟩ = some (.string a0_1) := (blk_cell BK149.out 1).trans rfl
            have hcz12_2 : w6.cell? ⟨gb149, 2, none⟩ = some (.slice A0_2 l0_2.length c0_2) := (blk_cell BK149.out 2).trans rfl
            have hcz12_3 : w6.cell? ⟨gb149, 3, none⟩ = some (.int .i64 a0_3) := (blk_cell BK149.out 3).trans rfl
            have hfz12_0 := blk_frozen BK149.out 0
            have hfz12_1 := blk_frozen BK149.out 1
            have hfz12_2 := blk_frozen BK149.out 2
            have hfz12_3 := blk_frozen BK149.out 3
            have hcz13_0 : w6.cell? ⟨gb150, 0, none⟩ = some (.int .i64 a1_0) := (blk_cell BK150.out 0).trans rfl
            have hcz13_1 : w6.cell? ⟨gb150, 1, none⟩ = some (.string a1_1) := (blk_cell BK150.out 1).trans rfl
            have hcz13_2 : w6.cell? ⟨gb150, 2, none⟩ = some (.slice A1_2 l1_2.length c1_2) := (blk_cell BK150.out 2).trans rfl
            have hcz13_3 : w6.cell? ⟨gb150, 3, none⟩ = some (.int .i64 a1_3) := (blk_cell BK150.out 3).trans rfl
            have hfz13_0 := blk_frozen BK150.out 0
            have hfz13_1 := blk_frozen BK150.out 1
            have hfz13_2 := blk_frozen BK150.out 2
            have hfz13_3 := blk_frozen BK150.out 3
            go_wp2
            go_meet
            case rel => exact ⟨_, ((a0_3 != a1_3)), (by first | rfl | (simp; done) | (simp [*]; done)), H', ⟨by first | omega | exact Nat.le_refl _⟩, ⟨by (with_reducible repeat (first | refine blk_drewN ?_ _ | refine blk_drew ?_ | refine blk_alloc ?_ _)); exact BK149.out⟩, ⟨by (with_reducible repeat (first | refine blk_drewN ?_ _ | refine blk_drew ?_ | refine blk_alloc ?_ _)); exact BK150.out⟩, ⟨by repeat (first | (with_reducible first | exact HB.out | apply below_alloc | apply pw_below_drewN | apply below_drew1 | refine below_set ?_ GE149.out | refine below_set ?_ GE150.out) | exact HB.out)⟩⟩
          · replace c10 := Bool.eq_false_iff.mpr c10
            subst c10
            have H1 : (computusref22_Same.j0 k false false a0_0 a0_1 l0_2 a0_3 a1_0 a1_1 l1_2 a1_3) = some r := by rw [if_neg (show ¬ (false = true) by decide)] at H; exact H
            clear H
            have H := H1
            clear H1
            have H' := Aside0.mk H
            clear H
            have hnb14 := NB149_150.out
            have hnc14 := NB150_149.out
            have hcz15_0 : w6.cell? ⟨gb149, 0, none⟩ = some (.int .i64 a0_0) := (blk_cell BK149.out 0).trans rfl
            have hcz15_1 : w6.cell? ⟨gb149, 1, none⟩ = some (.string a0_1) := (blk_cell BK149.out 1).trans rfl
            have hcz15_2 : w6.cell? ⟨gb149, 2, none⟩ = some (.slice A0_2 l0_2.length c0_2) := (blk_cell BK149.out 2).trans rfl
            have hcz15_3 : w6.cell? ⟨gb149, 3, none⟩ = some (.int .i64 a0_3) := (blk_cell BK149.out 3).trans rfl
            have hfz15_0 := blk_frozen BK149.out 0
            have hfz15_1 := blk_frozen BK149.out 1
            have hfz15_2 := blk_frozen BK149.out 2
            have hfz15_3 := blk_frozen BK149.out 3
            have hcz16_0 : w6.cell? ⟨gb150, 0, none⟩ = some (.int .i64 a1_0) := (blk_cell BK150.out 0).trans rfl
            have hcz16_1 : w6.cell? ⟨gb150, 1, none⟩ = some (.string a1_1) := (blk_cell BK150.out 1).trans rfl
            have hcz16_2 : w6.cell? ⟨gb150, 2, none⟩ = some (.slice A1_2 l1_2.length c1_2) := (blk_cell BK150.out 2).trans rfl
            have hcz16_3 : w6.cell? ⟨gb150, 3, none⟩ = some (.int .i64 a1_3) := (blk_cell BK150.out 3).trans rfl
            have hfz16_0 := blk_frozen BK150.out 0
            have hfz16_1 := blk_frozen BK150.out 1
            have hfz16_2 := blk_frozen BK150.out 2
            have hfz16_3 := blk_frozen BK150.out 3
            go_wp2
            go_meet
            case rel => exact ⟨_, (false), (by first | rfl | (simp; done) | (simp [*]; done)), H', ⟨by first | omega | exact Nat.le_refl _⟩, ⟨by (with_reducible repeat (first | refine blk_drewN ?_ _ | refine blk_drew ?_ | refine blk_alloc ?_ _)); exact BK149.out⟩, ⟨by (with_reducible repeat (first | refine blk_drewN ?_ _ | refine blk_drew ?_ | refine blk_alloc ?_ _)); exact BK150.out⟩, ⟨by repeat (first | (with_reducible first | exact HB.out | apply below_alloc | apply pw_below_drewN | apply below_drew1 | refine below_set ?_ GE149.out | refine below_set ?_ GE150.out) | exact HB.out)⟩⟩
        · rw [if_neg c9] at H
          have c9b0 : ((l0_2.length : Int) == (l1_2.length : Int)) = false := beq_eq_false_iff_ne.mpr c9
          have c9b1 : ((l0_2.length : Int) != (l1_2.length : Int)) = true := bne_iff_ne.mpr c9
          have c9b2 : (l0_2.length == l1_2.length) = false := by first | simpa using c9 | (simp at c9 ⊢; omega)
          have H' := Aside0.mk H
          clear H
          have hnb17 := NB149_150.out
          have hnc17 := NB150_149.out
          have hcz18_0 : w6.cell? ⟨gb149, 0, none⟩ = some (.int .i64 a0_0) := (blk_cell BK149.out 0).trans rfl
          have hcz18_1 : w6.cell? ⟨gb149, 1, none⟩ = some (.string a0_1) := (blk_cell BK149.out 1).trans rfl
          have hcz18_2 : w6.cell? ⟨gb149, 2, none⟩ = some (.slice A0_2 l0_2.length c0_2) := (blk_cell BK149.out 2).trans rfl
          have hcz18_3 : w6.cell? ⟨gb149, 3, none⟩ = some (.int .i64 a0_3) := (blk_cell BK149.out 3).trans rfl
          have hfz18_0 := blk_frozen BK149.out 0
          have hfz18_1 := blk_frozen BK149.out 1
          have hfz18_2 := blk_frozen BK149.out 2
          have hfz18_3 := blk_frozen BK149.out 3
          have hcz19_0 : w6.cell? ⟨gb150, 0, none⟩ = some (.int .i64 a1_0) := (blk_cell BK150.out 0).trans rfl
          have hcz19_1 : w6.cell? ⟨gb150, 1, none⟩ = some (.string a1_1) := (blk_cell BK150.out 1).trans rfl
          have hcz19_2 : w6.cell? ⟨gb150, 2, none⟩ = some (.slice A1_2 l1_2.length c1_2) := (blk_cell BK150.out 2).trans rfl
          have hcz19_3 : w6.cell? ⟨gb150, 3, none⟩ = some (.int .i64 a1_3) := (blk_cell BK150.out 3).trans rfl
          have hfz19_0 := blk_frozen BK150.out 0
          have hfz19_1 := blk_frozen BK150.out 1
          have hfz19_2 := blk_frozen BK150.out 2
          have hfz19_3 := blk_frozen BK150.out 3
          go_wp2
          go_meet
          case rel => exact ⟨_, (true), (by first | rfl | (simp; done) | (simp [*]; done)), H', ⟨by first | omega | exact Nat.le_refl _⟩, ⟨by (with_reducible repeat (first | refine blk_drewN ?_ _ | refine blk_drew ?_ | refine blk_alloc ?_ _)); exact BK149.out⟩, ⟨by (with_reducible repeat (first | refine blk_drewN ?_ _ | refine blk_drew ?_ | refine blk_alloc ?_ _)); exact BK150.out⟩, ⟨by repeat (first | (with_reducible first | exact HB.out | apply below_alloc | apply pw_below_drewN | apply below_drew1 | refine below_set ?_ GE149.out | refine below_set ?_ GE150.out) | exact HB.out)⟩⟩
      · rw [if_neg c8] at H
        have c8b0 : (a0_1.toList == a1_1.toList) = false := beq_eq_false_iff_ne.mpr c8
        have c8b1 : (a0_1.toList != a1_1.toList) = true := bne_iff_ne.mpr c8
        have H' := Aside0.mk H
        clear H
        have hnb20 := NB149_150.out
        have hnc20 := NB150_149.out
        have hcz21_0 : w6.cell? ⟨gb149, 0, none⟩ = some (.int .i64 a0_0) := (blk_cell BK149.out 0).trans rfl
        have hcz21_1 : w6.cell? ⟨gb149, 1, none⟩ = some (.string a0_1) := (blk_cell BK149.out 1).trans rfl
        have hcz21_2 : w6.cell? ⟨gb149, 2, none⟩ = some (.slice A0_2 l0_2.length c0_2) := (blk_cell BK149.out 2).trans rfl
        have hcz21_3 : w6.cell? ⟨gb149, 3, none⟩ = some (.int .i64 a0_3) := (blk_cell BK149.out 3).trans rfl
        have hfz21_0 := blk_frozen BK149.out 0
        have hfz21_1 := blk_frozen BK149.out 1
        have hfz21_2 := blk_frozen BK149.out 2
        have hfz21_3 := blk_frozen BK149.out 3
        have hcz22_0 : w6.cell? ⟨gb150, 0, none⟩ = some (.int .i64 a1_0) := (blk_cell BK150.out 0).trans rfl
        have hcz22_1 : w6.cell? ⟨gb150, 1, none⟩ = some (.string a1_1) := (blk_cell BK150.out 1).trans rfl
        have hcz22_2 : w6.cell? ⟨gb150, 2, none⟩ = some (.slice A1_2 l1_2.length c1_2) := (blk_cell BK150.out 2).trans rfl
        have hcz22_3 : w6.cell? ⟨gb150, 3, none⟩ = some (.int .i64 a1_3) := (blk_cell BK150.out 3).trans rfl
        have hfz22_0 := blk_frozen BK150.out 0
        have hfz22_1 := blk_frozen BK150.out 1
        have hfz22_2 := blk_frozen BK150.out 2
        have hfz22_3 := blk_frozen BK150.out 3
        go_wp2
        go_meet
        case rel => exact ⟨_, (true), (by first | rfl | (simp; done) | (simp [*]; done)), H', ⟨by first | omega | exact Nat.le_refl _⟩, ⟨by (with_reducible repeat (first | refine blk_drewN ?_ _ | refine blk_drew ?_ | refine blk_alloc ?_ _)); exact BK149.out⟩, ⟨by (with_reducible repeat (first | refine blk_drewN ?_ _ | refine blk_drew ?_ | refine blk_alloc ?_ _)); exact BK150.out⟩, ⟨by repeat (first | (with_reducible first | exact HB.out | apply below_alloc | apply pw_below_drewN | apply below_drew1 | refine below_set ?_ GE149.out | refine below_set ?_ GE150.out) | exact HB.out)⟩⟩
    · rw [if_neg c7] at H
      have c7b0 : (a0_0 == a1_0) = false := beq_eq_false_iff_ne.mpr c7
      have c7b1 : (a0_0 != a1_0) = true := bne_iff_ne.mpr c7
      (first | rw [c7b0] | (simp only [i64_w, i32_w]; rw [c7b0]) | skip)
      have H' := Aside0.mk H
      clear H
      have hnb23 := NB149_150.out
      have hnc23 := NB150_149.out
      have hcz24_0 : w6.cell? ⟨gb149, 0, none⟩ = some (.int .i64 a0_0) := (blk_cell BK149.out 0).trans rfl
      have hcz24_1 : w6.cell? ⟨gb149, 1, none⟩ = some (.string a0_1) := (blk_cell BK149.out 1).trans rfl
      have hcz24_2 : w6.cell? ⟨gb149, 2, none⟩ = some (.slice A0_2 l0_2.length c0_2) := (blk_cell BK149.out 2).trans rfl
      have hcz24_3 : w6.cell? ⟨gb149, 3, none⟩ = some (.int .i64 a0_3) := (blk_cell BK149.out 3).trans rfl
      have hfz24_0 := blk_frozen BK149.out 0
      have hfz24_1 := blk_frozen BK149.out 1
      have hfz24_2 := blk_frozen BK149.out 2
      have hfz24_3 := blk_frozen BK149.out 3
      have hcz25_0 : w6.cell? ⟨gb150, 0, none⟩ = some (.int .i64 a1_0) := (blk_cell BK150.out 0).trans rfl
      have hcz25_1 : w6.cell? ⟨gb150, 1, none⟩ = some (.string a1_1) := (blk_cell BK150.out 1).trans rfl
      have hcz25_2 : w6.cell? ⟨gb150, 2, none⟩ = some (.slice A1_2 l1_2.length c1_2) := (blk_cell BK150.out 2).trans rfl
      have hcz25_3 : w6.cell? ⟨gb150, 3, none⟩ = some (.int .i64 a1_3) := (blk_cell BK150.out 3).trans rfl
      have hfz25_0 := blk_frozen BK150.out 0
      have hfz25_1 := blk_frozen BK150.out 1
      have hfz25_2 := blk_frozen BK150.out 2
      have hfz25_3 := blk_frozen BK150.out 3
      go_wp2
      go_meet
      case rel => exact ⟨_, (true), (by first | rfl | (simp; done) | (simp [*]; done)), H', ⟨by first | omega | exact Nat.le_refl _⟩, ⟨by (with_reducible repeat (first | refine blk_drewN ?_ _ | refine blk_drew ?_ | refine blk_alloc ?_ _)); exact BK149.out⟩, ⟨by (with_reducible repeat (first | refine blk_drewN ?_ _ | refine blk_drew ?_ | refine blk_alloc ?_ _)); exact BK150.out⟩, ⟨by repeat (first | (with_reducible first | exact HB.out | apply below_alloc | apply pw_below_drewN | apply below_drew1 | refine below_set ?_ GE149.out | refine below_set ?_ GE150.out) | exact HB.out)⟩⟩
  case rest =>
    clear HC4
    try clear c1
    try clear c2
    try clear p2
    try clear c7
    try clear c7b0
    try clear c7b1
    try clear c8
    try clear c8b0
    try clear c8b1
    try clear c9
    try clear c9b0
    try clear c9b1
    try clear c9b2
    try clear c10
    try clear c11
    try clear c14
    try clear c17
    try clear c20
    try clear c23
    try clear hcz12_0
    try clear hcz12_1
    try clear hcz12_2
    try clear hcz12_3
    try clear hcz13_0
    try clear hcz13_1
    try clear hcz13_2
    try clear hcz13_3
    try clear hcz15_0
    try clear hcz15_1
    try clear hcz15_2
    try clear hcz15_3
    try clear hcz16_0
    try clear hcz16_1
    try clear hcz16_2
    try clear hcz16_3
    try clear hcz18_0
    try clear hcz18_1
    try clear hcz18_2
    try clear hcz18_3
    try clear hcz19_0
    try clear hcz19_1
    try clear hcz19_2
    try clear hcz19_3
    try clear hcz21_0
    try clear hcz21_1
    try clear hcz21_2
    try clear hcz21_3
    try clear hcz22_0
    try clear hcz22_1
    try clear hcz22_2
    try clear hcz22_3
    try clear hcz24_0
    try clear hcz24_1
    try clear hcz24_2
    try clear hcz24_3
    try clear hcz25_0
    try clear hcz25_1
    try clear hcz25_2
    try clear hcz25_3
    try clear hfz12_0
    try clear hfz12_1
    try clear hfz12_2
    try clear hfz12_3
    try clear hfz13_0
    try clear hfz13_1
    try clear hfz13_2
    try clear hfz13_3
    try clear hfz15_0
    try clear hfz15_1
    try clear hfz15_2
    try clear hfz15_3
    try clear hfz16_0
    try clear hfz16_1
    try clear hfz16_2
    try clear hfz16_3
    try clear hfz18_0
    try clear hfz18_1
    try clear hfz18_2
    try clear hfz18_3
    try clear hfz19_0
    try clear hfz19_1
    try clear hfz19_2
    try clear hfz19_3
    try clear hfz21_0
    try clear hfz21_1
    try clear hfz21_2
    try clear hfz21_3
    try clear hfz22_0
    try clear hfz22_1
    try clear hfz22_2
    try clear hfz22_3
    try clear hfz24_0
    try clear hfz24_1
    try clear hfz24_2
    try clear hfz24_3
    try clear hfz25_0
    try clear hfz25_1
    try clear hfz25_2
    try clear hfz25_3
    obtain ⟨kq, x38_3, rfl, HA, HJ3, BK149, BK150, HB⟩ := hcut
    cases kq with
    | zero => exact absurd HA.out (by simp [computusref22_Same.j0])
    | succ kj3 =>
      have H := HA.out
      clear HA
      simp only [computusref22_Same.j0] at H
      by_cases c26 : x38_3 = true
      · subst c26
        have H1 : (some false) = some r := by rw [if_pos rfl] at H; exact H
        clear H
        have H := H1
        clear H1
        obtain rfl := Option.some.inj H
        go_wp2
        go_ret
        exact ⟨by first | rfl | (simp [errW_none, errW_some] <;> rfl) | (simp [*, errW_none, errW_some] <;> rfl), by repeat (first | (with_reducible first | exact HB.out | apply below_alloc | apply pw_below_drewN | apply below_drew1 | refine below_set ?_ GE149.out | refine below_set ?_ GE150.out) | exact HB.out)⟩
      · replace c26 := Bool.eq_false_iff.mpr c26
        subst c26
        have H1 : (computusref22_Same.l0 kj3 a2 0 a0_0 a0_1 l0_2 a0_3 a1_0 a1_1 l1_2 a1_3) = some r := by rw [if_neg (show ¬ (false = true) by decide)] at H; exact H
        clear H
        have H := H1
        clear H1
        have H' := Aside0.mk H
        clear H
        go_wp2
        go_loopg [7] kj3 (fun kq v7 w' => ∃ (x7_2 : Int), v7 = .int .i64 x7_2 ∧ Aside0 (computusref22_Same.l0 kq a2 x7_2 a0_0 a0_1 l0_2 a0_3 a1_0 a1_1 l1_2 a1_3 = some r) ∧ Aside0 (kq ≤ kj3) ∧ Aside0 (w'.heap[gb149]? = some (.cells #[.int .i64 a0_0, .string a0_1, (.slice A0_2 l0_2.length c0_2), .int .i64 a0_3] 32 (0, 0))) ∧ Aside0 (w'.heap[gb150]? = some (.cells #[.int .i64 a1_0, .string a1_1, (.slice A1_2 l1_2.length c1_2), .int .i64 a1_3] 32 (0, 0))) ∧ Aside0 (Below w.heap.size w w'))
        case atStart => exact ⟨(0), (by first | rfl | (simp; done) | (simp [*]; done)), H', ⟨Nat.le_refl _⟩, ⟨by (with_reducible repeat (first | refine blk_drewN ?_ _ | refine blk_drew ?_ | refine blk_alloc ?_ _)); exact BK149.out⟩, ⟨by (with_reducible repeat (first | refine blk_drewN ?_ _ | refine blk_drew ?_ | refine blk_alloc ?_ _)); exact BK150.out⟩, ⟨by repeat (first | (with_reducible first | exact HB.out | apply below_alloc | apply pw_below_drewN | apply below_drew1 | refine below_set ?_ GE149.out | refine below_set ?_ GE150.out) | exact HB.out)⟩⟩
        case round =>
          clear H'
          try clear c1
          try clear c2
          try clear p2
          try clear c7
          try clear c7b0
          try clear c7b1
          try clear c8
          try clear c8b0
          try clear c8b1
          try clear c9
          try clear c9b0
          try clear c9b1
          try clear c9b2
          try clear c10
          try clear c11
          try clear c14
          try clear c17
          try clear c20
          try clear c23
          try clear c26
          try clear hcz12_0
          try clear hcz12_1
          try clear hcz12_2
          try clear hcz12_3
          try clear hcz13_0
          try clear hcz13_1
          try clear hcz13_2
          try clear hcz13_3
          try clear hcz15_0
          try clear hcz15_1
          try clear hcz15_2
          try clear hcz15_3
          try clear hcz16_0
          try clear hcz16_1
          try clear hcz16_2
          try clear hcz16_3
          try clear hcz18_0
          try clear hcz18_1
          try clear hcz18_2
          try clear hcz18_3
          try clear hcz19_0
          try clear hcz19_1
          try clear hcz19_2
          try clear hcz19_3
          try clear hcz21_0
          try clear hcz21_1
          try clear hcz21_2
          try clear hcz21_3
          try clear hcz22_0
          try clear hcz22_1
          try clear hcz22_2
          try clear hcz22_3
          try clear hcz24_0
          try clear hcz24_1
          try clear hcz24_2
          try clear hcz24_3
          try clear hcz25_0
          try clear hcz25_1
          try clear hcz25_2
          try clear hcz25_3
          try clear hfz12_0
          try clear hfz12_1
          try clear hfz12_2
          try clear hfz12_3
          try clear hfz13_0
          try clear hfz13_1
          try clear hfz13_2
          try clear hfz13_3
          try clear hfz15_0
          try clear hfz15_1
          try clear hfz15_2
          try clear hfz15_3
          try clear hfz16_0
          try clear hfz16_1
          try clear hfz16_2
          try clear hfz16_3
          try clear hfz18_0
          try clear hfz18_1
          try clear hfz18_2
          try clear hfz18_3
          try clear hfz19_0
          try clear hfz19_1
          try clear hfz19_2
          try clear hfz19_3
          try clear hfz21_0
          try clear hfz21_1
          try clear hfz21_2
          try clear hfz21_3
          try clear hfz22_0
          try clear hfz22_1
          try clear hfz22_2
          try clear hfz22_3
          try clear hfz24_0
          try clear hfz24_1
          try clear hfz24_2
          try clear hfz24_3
          try clear hfz25_0
          try clear hfz25_1
          try clear hfz25_2
          try clear hfz25_3
          try clear p2
          obtain ⟨x7_2, rfl, HA, HK2, BK149, BK150, HB⟩ := hrel
          cases gk with
          | zero => exact absurd HA.out (by simp [computusref22_Same.l0])
          | succ k2 =>
            have H := HA.out
            clear HA
            simp only [computusref22_Same.l0] at H
            by_cases c27 : x7_2 < (l0_2.length : Int)
            · rw [if_pos c27] at H
              have c27b0 : decide (x7_2 < (l0_2.length : Int)) = true := decide_eq_true c27
              clear c27
              by_cases c28 : 0 ≤ x7_2
              · rw [if_pos c28] at H
                have c28b0 : decide (0 ≤ x7_2) = true := decide_eq_true c28
                clear c28
                by_cases c29 : x7_2 < (l1_2.length : Int)
                · rw [if_pos c29] at H
                  have c29b0 : decide (x7_2 < (l1_2.length : Int)) = true := decide_eq_true c29
                  clear c29
                  replace H := Option.bind_eq_some_iff.mp H
                  obtain ⟨t153, A300, H⟩ := H
                  replace H : (if t153 = true then (computusref22_Same.l0 k2 a2 (wrap64 (x7_2 + 1)) a0_0 a0_1 l0_2 a0_3 a1_0 a1_1 l1_2 a1_3) else (some false)) = some r := H
                  have A30 := Aside0.mk A300
                  clear A300
                  by_cases c31 : t153 = true
                  · subst c31
                    have H1 : (computusref22_Same.l0 k2 a2 (wrap64 (x7_2 + 1)) a0_0 a0_1 l0_2 a0_3 a1_0 a1_1 l1_2 a1_3) = some r := by rw [if_pos rfl] at H; exact H
                    clear H
                    have H := H1
                    clear H1
                    have H' := Aside0.mk H
                    clear H
                    have hnb32 := NB149_150.out
                    have hnc32 := NB150_149.out
                    have hcz33_0 : wr.cell? ⟨gb149, 0, none⟩ = some (.int .i64 a0_0) := (blk_cell BK149.out 0).trans rfl
                    have hcz33_1 : wr.cell? ⟨gb149, 1, none⟩ = some (.string a0_1) := (blk_cell BK149.out 1).trans rfl
                    have hcz33_2 : wr.cell? ⟨gb149, 2, none⟩ = some (.slice A0_2 l0_2.length c0_2) := (blk_cell BK149.out 2).trans rfl
                    have hcz33_3 : wr.cell? ⟨gb149, 3, none⟩ = some (.int .i64 a0_3) := (blk_cell BK149.out 3).trans rfl
                    have hfz33_0 := blk_frozen BK149.out 0
                    have hfz33_1 := blk_frozen BK149.out 1
                    have hfz33_2 := blk_frozen BK149.out 2
                    have hfz33_3 := blk_frozen BK149.out 3
                    try go_wp2
                    have n0_ := Aside0.mk (blk_drew BK149.out)
                    have n1_ := Aside0.mk (blk_drew BK150.out)
                    have n2_ := Aside0.mk (below_drew1 HB.out)
                    clear BK149
                    clear BK150
                    clear HB
                    have BK149 := n0_
                    have BK150 := n1_
                    have HB := n2_
                    clear n0_ n1_ n2_
                    have p151 : 0 ≤ (x7_2 : Int) := of_decide_eq_true (by first | (with_reducible assumption) | assumption)
                    have q151 : x7_2 < (l0_2.length : Int) := of_decide_eq_true (by first | (with_reducible assumption) | assumption)
                    obtain ⟨ad151, A151_2, c151_2, e151, hx151_0, hx151_1, hx151_2, hx151_3, hl151_2, hi151_2⟩ := at_T32 HR0_2.out x7_2 p151 q151
                    have hw151_3 := hx151_3
                    have hw151_2 := hx151_2
                    have hw151_1 := hx151_1
                    have hw151_0 := hx151_0
                    cases e151
                    replace hx151_0 := (HB.out.cell (World.block_lt_of_cell? w _ hx151_0)).trans hx151_0
                    replace hx151_1 := (HB.out.cell (World.block_lt_of_cell? w _ hx151_1)).trans hx151_1
                    replace hx151_2 := (HB.out.cell (World.block_lt_of_cell? w _ hx151_2)).trans hx151_2
                    replace hx151_3 := (HB.out.cell (World.block_lt_of_cell? w _ hx151_3)).trans hx151_3
                    have HR151_2 := Aside0.mk hi151_2
                    have HC151_2 := Aside0.mk hl151_2
                    clear hi151_2 hl151_2
                    replace p151 := eq_true p151
                    replace q151 := eq_true q151
                    have p152 : 0 ≤ (x7_2 : Int) := of_decide_eq_true (by first | (with_reducible assumption) | assumption)
                    have q152 : x7_2 < (l1_2.length : Int) := of_decide_eq_true (by first | (with_reducible assumption) | assumption)
                    obtain ⟨ad152, A152_2, c152_2, e152, hx152_0, hx152_1, hx152_2, hx152_3, hl152_2, hi152_2⟩ := at_T32 HR1_2.out x7_2 p152 q152
                    have hw152_3 := hx152_3
                    have hw152_2 := hx152_2
                    have hw152_1 := hx152_1
                    have hw152_0 := hx152_0
                    cases e152
                    replace hx152_0 := (HB.out.cell (World.block_lt_of_cell? w _ hx152_0)).trans hx152_0
                    replace hx152_1 := (HB.out.cell (World.block_lt_of_cell? w _ hx152_1)).trans hx152_1
                    replace hx152_2 := (HB.out.cell (World.block_lt_of_cell? w _ hx152_2)).trans hx152_2
                    replace hx152_3 := (HB.out.cell (World.block_lt_of_cell? w _ hx152_3)).trans hx152_3
                    have HR152_2 := Aside0.mk hi152_2
                    have HC152_2 := Aside0.mk hl152_2
                    clear hi152_2 hl152_2
                    replace p152 := eq_true p152
                    replace q152 := eq_true q152
                    refine start_ (n := 13) (S := fun w' => w'.cell? ⟨gb149, 0, none⟩ = some (.int .i64 a0_0) ∧ w'.cell? ⟨gb149, 1, none⟩ = some (.string a0_1) ∧ w'.cell? ⟨gb149, 2, none⟩ = some (.slice (some ad151) l0_2.length c0_2) ∧ w'.cell? ⟨gb149, 3, none⟩ = some (.int .i64 a0_3) ∧ w'.cell? ⟨gb150, 0, none⟩ = some (.int .i64 a1_0) ∧ w'.cell? ⟨gb150, 1, none⟩ = some (.string a1_1) ∧ w'.cell? ⟨gb150, 2, none⟩ = some (.slice (some ad152) l1_2.length c1_2) ∧ w'.cell? ⟨gb150, 3, none⟩ = some (.int .i64 a1_3) ∧ w'.cell? (ad151.add ((x7_2).toNat * 4)) = some (.int .i64 ((rd_T32 l0_2 x7_2).f0)) ∧ w'.cell? ⟨(ad151.add ((x7_2).toNat * 4)).block, (ad151.add ((x7_2).toNat * 4)).off + 1, none⟩ = some (.string ((rd_T32 l0_2 x7_2).f1)) ∧ w'.cell? ⟨(ad151.add ((x7_2).toNat * 4)).block, (ad151.add ((x7_2).toNat * 4)).off + 2, none⟩ = some (.slice A151_2 ((rd_T32 l0_2 x7_2).f2).length c151_2) ∧ w'.cell? ⟨(ad151.add ((x7_2).toNat * 4)).block, (ad151.add ((x7_2).toNat * 4)).off + 3, none⟩ = some (.int .i64 ((rd_T32 l0_2 x7_2).f3)) ∧ w'.cell? (ad152.add ((x7_2).toNat * 4)) = some (.int .i64 ((rd_T32 l1_2 x7_2).f0)) ∧ w'.cell? ⟨(ad152.add ((x7_2).toNat * 4)).block, (ad152.add ((x7_2).toNat * 4)).off + 1, none⟩ = some (.string ((rd_T32 l1_2 x7_2).f1)) ∧ w'.cell? ⟨(ad152.add ((x7_2).toNat * 4)).block, (ad152.add ((x7_2).toNat * 4)).off + 2, none⟩ = some (.slice A152_2 ((rd_T32 l1_2 x7_2).f2).length c152_2) ∧ w'.cell? ⟨(ad152.add ((x7_2).toNat * 4)).block, (ad152.add ((x7_2).toNat * 4)).off + 3, none⟩ = some (.int .i64 ((rd_T32 l1_2 x7_2).f3))) (ds := []) #[false, false, false, false, false, false, false, false, false, false, false, false, false] (by kernel_rfl) rfl rfl ⟨(blk_cell BK149.out 0).trans rfl, (blk_cell BK149.out 1).trans rfl, (blk_cell BK149.out 2).trans rfl, (blk_cell BK149.out 3).trans rfl, (blk_cell BK150.out 0).trans rfl, (blk_cell BK150.out 1).trans rfl, (blk_cell BK150.out 2).trans rfl, (blk_cell BK150.out 3).trans rfl, ((HB.out.cell (World.block_lt_of_cell? w _ hw151_0)).trans hw151_0), ((HB.out.cell (World.block_lt_of_cell? w _ hw151_1)).trans hw151_1), ((HB.out.cell (World.block_lt_of_cell? w _ hw151_2)).trans hw151_2), ((HB.out.cell (World.block_lt_of_cell? w _ hw151_3)).trans hw151_3), ((HB.out.cell (World.block_lt_of_cell? w _ hw152_0)).trans hw152_0), ((HB.out.cell (World.block_lt_of_cell? w _ hw152_1)).trans hw152_1), ((HB.out.cell (World.block_lt_of_cell? w _ hw152_2)).trans hw152_2), ((HB.out.cell (World.block_lt_of_cell? w _ hw152_3)).trans hw152_3)⟩ (fun hHeld => ?_); refine with_tabW computusref22_Same.tab6 computusref22_Same.bits6 (fun HT_ HW_ => ?_)
                    generalize wr.drew = w34 at BK149 BK150 HB HR151_2 HR152_2 hx151_0 hx151_1 hx151_2 hx151_3 hx152_0 hx152_1 hx152_2 hx152_3 hHeld ⊢
                    refine pure_ (i := 0) (N := some 46) (v := ?_) (a' := ?_) #[true, false, false, false, false, false, false, false, false, false, false, false, false] rfl rfl (any_of HT_.out (by kernel_rfl)) (fun _ _ _ h => h) (Or.inl ⟨by rfl, ?_⟩) ?_ ?_
                    rotate_left
                    · intro w'
                      go_simp
                      with_reducible rfl
                    rotate_left
                    · simp only [Act.put, List.setIfInBounds_toArray, List.set_cons_zero, List.set_cons_succ, i64_w, i32_w]
                      rfl
                    refine pure_ (i := 2) (N := some 48) (v := ?_) (a' := ?_) #[true, false, true, false, false, false, false, false, false, false, false, false, false] rfl rfl (any_of HT_.out (by kernel_rfl)) (fun _ _ _ h => h) (Or.inl ⟨by rfl, ?_⟩) ?_ ?_
                    rotate_left
                    · intro w'
                      go_simp
                      with_reducible rfl
                    rotate_left
                    · simp only [Act.put, List.setIfInBounds_toArray, List.set_cons_zero, List.set_cons_succ, i64_w, i32_w]
                      rfl
                    refine pure_ (i := 5) (N := some 51) (v := ?_) (a' := ?_) #[true, false, true, false, false, true, false, false, false, false, false, false, false] rfl rfl (any_of HT_.out (by kernel_rfl)) (fun _ _ _ h => h) (Or.inl ⟨by rfl, ?_⟩) ?_ ?_
                    rotate_left
                    · intro w'
                      go_simp
                      with_reducible rfl
                    rotate_left
                    · simp only [Act.put, List.setIfInBounds_toArray, List.set_cons_zero, List.set_cons_succ, i64_w, i32_w]
                      rfl
                    refine pure_ (i := 7) (N := some 53) (v := ?_) (a' := ?_) #[true, false, true, false, false, true, false, true, false, false, false, false, false] rfl rfl (any_of HT_.out (by kernel_rfl)) (fun _ _ _ h => h) (Or.inl ⟨by rfl, ?_⟩) ?_ ?_
                    rotate_left
                    · intro w'
                      go_simp
                      with_reducible rfl
                    rotate_left
                    · simp only [Act.put, List.setIfInBounds_toArray, List.set_cons_zero, List.set_cons_succ, i64_w, i32_w]
                      rfl
                    refine pure_ (i := 10) (N := some 56) (v := ?_) (a' := ?_) #[true, false, true, false, false, true, false, true, false, false, true, false, false] rfl rfl (any_of HT_.out (by kernel_rfl)) (fun _ _ _ h => h) (Or.inl ⟨by rfl, ?_⟩) ?_ ?_
                    rotate_left
                    · intro w'
                      go_simp
                      with_reducible rfl
                    rotate_left
                    · simp only [Act.put, List.setIfInBounds_toArray, List.set_cons_zero, List.set_cons_succ, i64_w, i32_w]
                      rfl
                    refine take_ (i := 1) (N := some 47) (v := ?_) (a' := ?_) #[true, true, true, false, false, true, false, true, false, false, true, false, false] rfl rfl (take_ofW HT_.out HW_.out (by kernel_rfl)) (fun _ _ _ h => h) (Or.inl ⟨by rfl, ?_⟩) hHeld ?_ ?_
                    rotate_left
                    · rintro w' ⟨s0, s1, s2, s3, s4, s5, s6, s7, s8, s9, s10, s11, s12, s13, s14, s15⟩
                      go_simp
                      with_reducible rfl
                    rotate_left
                    · simp only [Act.put, List.setIfInBounds_toArray, List.set_cons_zero, List.set_cons_succ, i64_w, i32_w]
                      rfl
                    refine pure_ (i := 3) (N := some 49) (v := ?_) (a' := ?_) #[true, true, true, true, false, true, false, true, false, false, true, false, false] rfl rfl (any_of HT_.out (by kernel_rfl)) (fun _ _ _ h => h) (Or.inl ⟨by rfl, ?_⟩) ?_ ?_
                    rotate_left
                    · intro w'
                      go_simp
                      with_reducible rfl
                    rotate_left
                    · simp only [Act.put, List.setIfInBounds_toArray, List.set_cons_zero, List.set_cons_succ, i64_w, i32_w]
                      rfl
                    refine take_ (i := 4) (N := some 50) (v := ?_) (a' := ?_) #[true, true, true, true, true, true, false, true, false, false, true, false, false] rfl rfl (take_ofW HT_.out HW_.out (by kernel_rfl)) (fun _ _ _ h => h) (Or.inl ⟨by rfl, ?_⟩) hHeld ?_ ?_
                    rotate_left
                    · rintro w' ⟨s0, s1, s2, s3, s4, s5, s6, s7, s8, s9, s10, s11, s12, s13, s14, s15⟩
                      go_simp
                      with_reducible rfl
                    rotate_left
                    · simp only [Act.put, List.setIfInBounds_toArray, List.set_cons_zero, List.set_cons_succ, i64_w, i32_w]
                      rfl
                    refine take_ (i := 6) (N := some 52) (v := ?_) (a' := ?_) #[true, true, true, true, true, true, true, true, false, false, true, false, false] rfl rfl (take_ofW HT_.out HW_.out (by kernel_rfl)) (fun _ _ _ h => h) (Or.inl ⟨by rfl, ?_⟩) hHeld ?_ ?_
                    rotate_left
                    · rintro w' ⟨s0, s1, s2, s3, s4, s5, s6, s7, s8, s9, s10, s11, s12, s13, s14, s15⟩
                      go_simp
                      with_reducible rfl
                    rotate_left
                    · simp only [Act.put, List.setIfInBounds_toArray, List.set_cons_zero, List.set_cons_succ, i64_w, i32_w]
                      rfl
                    refine pure_ (i := 8) (N := some 54) (v := ?_) (a' := ?_) #[true, true, true, true, true, true, true, true, true, false, true, false, false] rfl rfl (any_of HT_.out (by kernel_rfl)) (fun _ _ _ h => h) (Or.inl ⟨by rfl, ?_⟩) ?_ ?_
                    rotate_left
                    · intro w'
                      go_simp
                      with_reducible rfl
                    rotate_left
                    · simp only [Act.put, List.setIfInBounds_toArray, List.set_cons_zero, List.set_cons_succ, i64_w, i32_w]
                      rfl
                    refine take_ (i := 9) (N := some 55) (v := ?_) (a' := ?_) #[true, true, true, true, true, true, true, true, true, true, true, false, false] rfl rfl (take_ofW HT_.out HW_.out (by kernel_rfl)) (fun _ _ _ h => h) (Or.inl ⟨by rfl, ?_⟩) hHeld ?_ ?_
                    rotate_left
                    · rintro w' ⟨s0, s1, s2, s3, s4, s5, s6, s7, s8, s9, s10, s11, s12, s13, s14, s15⟩
                      go_simp
                      with_reducible rfl
                    rotate_left
                    · simp only [Act.put, List.setIfInBounds_toArray, List.set_cons_zero, List.set_cons_succ, i64_w, i32_w]
                      rfl
                    refine one_ (i := 11) (N := some 57) #[true, true, true, true, true, true, true, true, true, true, true, true, false] rfl rfl (one_of HT_.out (by kernel_rfl)) (by decide) (fun K hK => ?_)
                    refine goes_ Tryd.func8 (by kernel_rfl) rfl #[.agg #[.int .i64 ((rd_T32 l0_2 x7_2).f0), .string ((rd_T32 l0_2 x7_2).f1), .slice A151_2 ((rd_T32 l0_2 x7_2).f2).length c151_2, .int .i64 ((rd_T32 l0_2 x7_2).f3)], .agg #[.int .i64 ((rd_T32 l1_2 x7_2).f0), .string ((rd_T32 l1_2 x7_2).f1), .slice A152_2 ((rd_T32 l1_2 x7_2).f2).length c152_2, .int .i64 ((rd_T32 l1_2 x7_2).f3)], .bool a2] (by rfl) rfl rfl (by (try simp only [List.map_toArray, List.map_cons, List.map_nil]); first | done | rfl | (simp only [List.length_drop, List.length_take]; rfl)) ?_
                    with_reducible refine (ih k2 (by have := HJ3.out; have := HK2.out; omega) ((rd_T32 l0_2 x7_2).f0) ((rd_T32 l0_2 x7_2).f1) _ _ ((rd_T32 l0_2 x7_2).f2) ((rd_T32 l0_2 x7_2).f3) ((rd_T32 l1_2 x7_2).f0) ((rd_T32 l1_2 x7_2).f1) _ _ ((rd_T32 l1_2 x7_2).f2) ((rd_T32 l1_2 x7_2).f3) a2 true _ ?side1 ?side2 ?side3 ?side4 A30.out).mono ?_
                    (case side1 => repeat (first | exact (Kd.C_below HR151_2.out HB.out) | (with_reducible refine Kd.C_alloc ?_ _) | (with_reducible refine Kd.C_drewN ?_ _) | (with_reducible refine Kd.C_drew ?_)))
                    (case side2 => exact HC151_2.out)
                    (case side3 => repeat (first | exact (Kd.C_below HR152_2.out HB.out) | (with_reducible refine Kd.C_alloc ?_ _) | (with_reducible refine Kd.C_drewN ?_ _) | (with_reducible refine Kd.C_drew ?_)))
                    (case side4 => exact HC152_2.out)
                    rintro e w35 ⟨rfl, hb⟩
                    refine ⟨_, rfl, ?_⟩
                    have n0_ := Aside0.mk (blk_below (g := gb149) (o := .cells #[.int .i64 a0_0, .string a0_1, .slice (some ad151) l0_2.length c0_2, .int .i64 a0_3] 32 (0, 0)) (by (with_reducible repeat (first | refine blk_drewN ?_ _ | refine blk_drew ?_ | refine blk_alloc ?_ _)); exact BK149.out) hb)
                    have n1_ := Aside0.mk (blk_below (g := gb150) (o := .cells #[.int .i64 a1_0, .string a1_1, .slice (some ad152) l1_2.length c1_2, .int .i64 a1_3] 32 (0, 0)) (by (with_reducible repeat (first | refine blk_drewN ?_ _ | refine blk_drew ?_ | refine blk_alloc ?_ _)); exact BK150.out) hb)
                    have n2_ := Aside0.mk (below_step (by repeat (first | (with_reducible first | exact HB.out | apply below_alloc | apply pw_below_drewN | apply below_drew1 | refine below_set ?_ GE149.out | refine below_set ?_ GE150.out) | exact HB.out)) hb)
                    clear BK149
                    clear BK150
                    clear HB
                    have BK149 := n0_
                    have BK150 := n1_
                    have HB := n2_
                    clear n0_ n1_ n2_
                    (try clear hb)
                    (try clear hb2)
                    (try clear hk)
                    (try clear hi)
                    refine hK.out _ _ ⟨(blk_cell BK149.out 0).trans rfl, (blk_cell BK149.out 1).trans rfl, (blk_cell BK149.out 2).trans rfl, (blk_cell BK149.out 3).trans rfl, (blk_cell BK150.out 0).trans rfl, (blk_cell BK150.out 1).trans rfl, (blk_cell BK150.out 2).trans rfl, (blk_cell BK150.out 3).trans rfl, ((HB.out.cell (World.block_lt_of_cell? w _ hw151_0)).trans hw151_0), ((HB.out.cell (World.block_lt_of_cell? w _ hw151_1)).trans hw151_1), ((HB.out.cell (World.block_lt_of_cell? w _ hw151_2)).trans hw151_2), ((HB.out.cell (World.block_lt_of_cell? w _ hw151_3)).trans hw151_3), ((HB.out.cell (World.block_lt_of_cell? w _ hw152_0)).trans hw152_0), ((HB.out.cell (World.block_lt_of_cell? w _ hw152_1)).trans hw152_1), ((HB.out.cell (World.block_lt_of_cell? w _ hw152_2)).trans hw152_2), ((HB.out.cell (World.block_lt_of_cell? w _ hw152_3)).trans hw152_3)⟩ (fun hHeld => ?_)
                    clear hK K
                    refine norm_ (a' := ?_) ?_ ?_
                    rotate_left
                    · show Act.put _ (some 57) _ = _
                      simp only [Act.put, List.setIfInBounds_toArray, List.set_cons_zero, List.set_cons_succ, i64_w, i32_w]
                      rfl
                    refine pure_ (i := 12) (N := some 58) (v := ?_) (a' := ?_) #[true, true, true, true, true, true, true, true, true, true, true, true, true] rfl rfl (any_of HT_.out (by kernel_rfl)) (fun _ _ _ h => h) (Or.inl ⟨by rfl, ?_⟩) ?_ ?_
                    rotate_left
                    · intro w'
                      go_simp
                      with_reducible rfl
                    rotate_left
                    · simp only [Act.put, List.setIfInBounds_toArray, List.set_cons_zero, List.set_cons_succ, i64_w, i32_w]
                      rfl
                    refine done_ (done_of HT_.out (by kernel_rfl)) ?_
                    try go_wp2
                    go_roundg k2
                    case measure => have := HJ3.out; have := HK2.out; omega
                    case rel => exact ⟨(wrap64 (x7_2 + 1)), (by first | rfl | (simp; done) | (simp [*]; done)), H', ⟨by have := HJ3.out; have := HK2.out; omega⟩, ⟨by (with_reducible repeat (first | refine blk_drewN ?_ _ | refine blk_drew ?_ | refine blk_alloc ?_ _)); exact BK149.out⟩, ⟨by (with_reducible repeat (first | refine blk_drewN ?_ _ | refine blk_drew ?_ | refine blk_alloc ?_ _)); exact BK150.out⟩, ⟨by repeat (first | (with_reducible first | exact HB.out | apply below_alloc | apply pw_below_drewN | apply below_drew1 | refine below_set ?_ GE149.out | refine below_set ?_ GE150.out) | exact HB.out)⟩⟩
                  · replace c31 := Bool.eq_false_iff.mpr c31
                    subst c31
                    have H1 : (some false) = some r := by rw [if_neg (show ¬ (false = true) by decide)] at H; exact H
                    clear H
                    have H := H1
                    clear H1
                    obtain rfl := Option.some.inj H
                    have hnb36 := NB149_150.out
                    have hnc36 := NB150_149.out
                    have hcz37_0 : wr.cell? ⟨gb149, 0, none⟩ = some (.int .i64 a0_0) := (blk_cell BK149.out 0).trans rfl
                    have hcz37_1 : wr.cell? ⟨gb149, 1, none⟩ = some (.string a0_1) := (blk_cell BK149.out 1).trans rfl
                    have hcz37_2 : wr.cell? ⟨gb149, 2, none⟩ = some (.slice A0_2 l0_2.length c0_2) := (blk_cell BK149.out 2).trans rfl
                    have hcz37_3 : wr.cell? ⟨gb149, 3, none⟩ = some (.int .i64 a0_3) := (blk_cell BK149.out 3).trans rfl
                    have hfz37_0 := blk_frozen BK149.out 0
                    have hfz37_1 := blk_frozen BK149.out 1
                    have hfz37_2 := blk_frozen BK149.out 2
                    have hfz37_3 := blk_frozen BK149.out 3
                    try go_wp2
                    have n0_ := Aside0.mk (blk_drew BK149.out)
                    have n1_ := Aside0.mk (blk_drew BK150.out)
                    have n2_ := Aside0.mk (below_drew1 HB.out)
                    clear BK149
                    clear BK150
                    clear HB
                    have BK149 := n0_
                    have BK150 := n1_
                    have HB := n2_
                    clear n0_ n1_ n2_
                    have p151 : 0 ≤ (x7_2 : Int) := of_decide_eq_true (by first | (with_reducible assumption) | assumption)
                    have q151 : x7_2 < (l0_2.length : Int) := of_decide_eq_true (by first | (with_reducible assumption) | assumption)
                    obtain ⟨ad151, A151_2, c151_2, e151, hx151_0, hx151_1, hx151_2, hx151_3, hl151_2, hi151_2⟩ := at_T32 HR0_2.out x7_2 p151 q151
                    have hw151_3 := hx151_3
                    have hw151_2 := hx151_2
                    have hw151_1 := hx151_1
                    have hw151_0 := hx151_0
                    cases e151
                    replace hx151_0 := (HB.out.cell (World.block_lt_of_cell? w _ hx151_0)).trans hx151_0
                    replace hx151_1 := (HB.out.cell (World.block_lt_of_cell? w _ hx151_1)).trans hx151_1
                    replace hx151_2 := (HB.out.cell (World.block_lt_of_cell? w _ hx151_2)).trans hx151_2
                    replace hx151_3 := (HB.out.cell (World.block_lt_of_cell? w _ hx151_3)).trans hx151_3
                    have HR151_2 := Aside0.mk hi151_2
                    have HC151_2 := Aside0.mk hl151_2
                    clear hi151_2 hl151_2
                    replace p151 := eq_true p151
                    replace q151 := eq_true q151
                    have p152 : 0 ≤ (x7_2 : Int) := of_decide_eq_true (by first | (with_reducible assumption) | assumption)
                    have q152 : x7_2 < (l1_2.length : Int) := of_decide_eq_true (by first | (with_reducible assumption) | assumption)
                    obtain ⟨ad152, A152_2, c152_2, e152, hx152_0, hx152_1, hx152_2, hx152_3, hl152_2, hi152_2⟩ := at_T32 HR1_2.out x7_2 p152 q152
                    have hw152_3 := hx152_3
                    have hw152_2 := hx152_2
                    have hw152_1 := hx152_1
                    have hw152_0 := hx152_0
                    cases e152
                    replace hx152_0 := (HB.out.cell (World.block_lt_of_cell? w _ hx152_0)).trans hx152_0
                    replace hx152_1 := (HB.out.cell (World.block_lt_of_cell? w _ hx152_1)).trans hx152_1
                    replace hx152_2 := (HB.out.cell (World.block_lt_of_cell? w _ hx152_2)).trans hx152_2
                    replace hx152_3 := (HB.out.cell (World.block_lt_of_cell? w _ hx152_3)).trans hx152_3
                    have HR152_2 := Aside0.mk hi152_2
                    have HC152_2 := Aside0.mk hl152_2
                    clear hi152_2 hl152_2
                    replace p152 := eq_true p152
                    replace q152 := eq_true q152
                    refine start_ (n := 13) (S := fun w' => w'.cell? ⟨gb149, 0, none⟩ = some (.int .i64 a0_0) ∧ w'.cell? ⟨gb149, 1, none⟩ = some (.string a0_1) ∧ w'.cell? ⟨gb149, 2, none⟩ = some (.slice (some ad151) l0_2.length c0_2) ∧ w'.cell? ⟨gb149, 3, none⟩ = some (.int .i64 a0_3) ∧ w'.cell? ⟨gb150, 0, none⟩ = some (.int .i64 a1_0) ∧ w'.cell? ⟨gb150, 1, none⟩ = some (.string a1_1) ∧ w'.cell? ⟨gb150, 2, none⟩ = some (.slice (some ad152) l1_2.length c1_2) ∧ w'.cell? ⟨gb150, 3, none⟩ = some (.int .i64 a1_3) ∧ w'.cell? (ad151.add ((x7_2).toNat * 4)) = some (.int .i64 ((rd_T32 l0_2 x7_2).f0)) ∧ w'.cell? ⟨(ad151.add ((x7_2).toNat * 4)).block, (ad151.add ((x7_2).toNat * 4)).off + 1, none⟩ = some (.string ((rd_T32 l0_2 x7_2).f1)) ∧ w'.cell? ⟨(ad151.add ((x7_2).toNat * 4)).block, (ad151.add ((x7_2).toNat * 4)).off + 2, none⟩ = some (.slice A151_2 ((rd_T32 l0_2 x7_2).f2).length c151_2) ∧ w'.cell? ⟨(ad151.add ((x7_2).toNat * 4)).block, (ad151.add ((x7_2).toNat * 4)).off + 3, none⟩ = some (.int .i64 ((rd_T32 l0_2 x7_2).f3)) ∧ w'.cell? (ad152.add ((x7_2).toNat * 4)) = some (.int .i64 ((rd_T32 l1_2 x7_2).f0)) ∧ w'.cell? ⟨(ad152.add ((x7_2).toNat * 4)).block, (ad152.add ((x7_2).toNat * 4)).off + 1, none⟩ = some (.string ((rd_T32 l1_2 x7_2).f1)) ∧ w'.cell? ⟨(ad152.add ((x7_2).toNat * 4)).block, (ad152.add ((x7_2).toNat * 4)).off + 2, none⟩ = some (.slice A152_2 ((rd_T32 l1_2 x7_2).f2).length c152_2) ∧ w'.cell? ⟨(ad152.add ((x7_2).toNat * 4)).block, (ad152.add ((x7_2).toNat * 4)).off + 3, none⟩ = some (.int .i64 ((rd_T32 l1_2 x7_2).f3))) (ds := []) #[false, false, false, false, false, false, false, false, false, false, false, false, false] (by kernel_rfl) rfl rfl ⟨(blk_cell BK149.out 0).trans rfl, (blk_cell BK149.out 1).trans rfl, (blk_cell BK149.out 2).trans rfl, (blk_cell BK149.out 3).trans rfl, (blk_cell BK150.out 0).trans rfl, (blk_cell BK150.out 1).trans rfl, (blk_cell BK150.out 2).trans rfl, (blk_cell BK150.out 3).trans rfl, ((HB.out.cell (World.block_lt_of_cell? w _ hw151_0)).trans hw151_0), ((HB.out.cell (World.block_lt_of_cell? w _ hw151_1)).trans hw151_1), ((HB.out.cell (World.block_lt_of_cell? w _ hw151_2)).trans hw151_2), ((HB.out.cell (World.block_lt_of_cell? w _ hw151_3)).trans hw151_3), ((HB.out.cell (World.block_lt_of_cell? w _ hw152_0)).trans hw152_0), ((HB.out.cell (World.block_lt_of_cell? w _ hw152_1)).trans hw152_1), ((HB.out.cell (World.block_lt_of_cell? w _ hw152_2)).trans hw152_2), ((HB.out.cell (World.block_lt_of_cell? w _ hw152_3)).trans hw152_3)⟩ (fun hHeld => ?_); refine with_tabW computusref22_Same.tab6 computusref22_Same.bits6 (fun HT_ HW_ => ?_)
                    generalize wr.drew = w38 at BK149 BK150 HB HR151_2 HR152_2 hx151_0 hx151_1 hx151_2 hx151_3 hx152_0 hx152_1 hx152_2 hx152_3 hHeld ⊢
                    refine pure_ (i := 0) (N := some 46) (v := ?_) (a' := ?_) #[true, false, false, false, false, false, false, false, false, false, false, false, false] rfl rfl (any_of HT_.out (by kernel_rfl)) (fun _ _ _ h => h) (Or.inl ⟨by rfl, ?_⟩) ?_ ?_
                    rotate_left
                    · intro w'
                      go_simp
                      with_reducible rfl
                    rotate_left
                    · simp only [Act.put, List.setIfInBounds_toArray, List.set_cons_zero, List.set_cons_succ, i64_w, i32_w]
                      rfl
                    refine pure_ (i := 2) (N := some 48) (v := ?_) (a' := ?_) #[true, false, true, false, false, false, false, false, false, false, false, false, false] rfl rfl (any_of HT_.out (by kernel_rfl)) (fun _ _ _ h => h) (Or.inl ⟨by rfl, ?_⟩) ?_ ?_
                    rotate_left
                    · intro w'
                      go_simp
                      with_reducible rfl
                    rotate_left
                    · simp only [Act.put, List.setIfInBounds_toArray, List.set_cons_zero, List.set_cons_succ, i64_w, i32_w]
                      rfl
                    refine pure_ (i := 5) (N := some 51) (v := ?_) (a' := ?_) #[true, false, true, false, false, true, false, false, false, false, false, false, false] rfl rfl (any_of HT_.out (by kernel_rfl)) (fun _ _ _ h => h) (Or.inl ⟨by rfl, ?_⟩) ?_ ?_
                    rotate_left
                    · intro w'
                      go_simp
                      with_reducible rfl
                    rotate_left
                    · simp only [Act.put, List.setIfInBounds_toArray, List.set_cons_zero, List.set_cons_succ, i64_w, i32_w]
                      rfl
                    refine pure_ (i := 7) (N := some 53) (v := ?_) (a' := ?_) #[true, false, true, false, false, true, false, true, false, false, false, false, false] rfl rfl (any_of HT_.out (by kernel_rfl)) (fun _ _ _ h => h) (Or.inl ⟨by rfl, ?_⟩) ?_ ?_
                    rotate_left
                    · intro w'
                      go_simp
                      with_reducible rfl
                    rotate_left
                    · simp only [Act.put, List.setIfInBounds_toArray, List.set_cons_zero, List.set_cons_succ, i64_w, i32_w]
                      rfl
                    refine pure_ (i := 10) (N := some 56) (v := ?_) (a' := ?_) #[true, false, true, false, false, true, false, true, false, false, true, false, false] rfl rfl (any_of HT_.out (by kernel_rfl)) (fun _ _ _ h => h) (Or.inl ⟨by rfl, ?_⟩) ?_ ?_
                    rotate_left
                    · intro w'
                      go_simp
                      with_reducible rfl
                    rotate_left
                    · simp only [Act.put, List.setIfInBounds_toArray, List.set_cons_zero, List.set_cons_succ, i64_w, i32_w]
                      rfl
                    refine take_ (i := 1) (N := some 47) (v := ?_) (a' := ?_) #[true, true, true, false, false, true, false, true, false, false, true, false, false] rfl rfl (take_ofW HT_.out HW_.out (by kernel_rfl)) (fun _ _ _ h => h) (Or.inl ⟨by rfl, ?_⟩) hHeld ?_ ?_
                    rotate_left
                    · rintro w' ⟨s0, s1, s2, s3, s4, s5, s6, s7, s8, s9, s10, s11, s12, s13, s14, s15⟩
                      go_simp
                      with_reducible rfl
                    rotate_left
                    · simp only [Act.put, List.setIfInBounds_toArray, List.set_cons_zero, List.set_cons_succ, i64_w, i32_w]
                      rfl
                    refine pure_ (i := 3) (N := some 49) (v := ?_) (a' := ?_) #[true, true, true, true, false, true, false, true, false, false, true, false, false] rfl rfl (any_of HT_.out (by kernel_rfl)) (fun _ _ _ h => h) (Or.inl ⟨by rfl, ?_⟩) ?_ ?_
                    rotate_left
                    · intro w'
                      go_simp
                      with_reducible rfl
                    rotate_left
                    · simp only [Act.put, List.setIfInBounds_toArray, List.set_cons_zero, List.set_cons_succ, i64_w, i32_w]
                      rfl
                    refine take_ (i := 4) (N := some 50) (v := ?_) (a' := ?_) #[true, true, true, true, true, true, false, true, false, false, true, false, false] rfl rfl (take_ofW HT_.out HW_.out (by kernel_rfl)) (fun _ _ _ h => h) (Or.inl ⟨by rfl, ?_⟩) hHeld ?_ ?_
                    rotate_left
                    · rintro w' ⟨s0, s1, s2, s3, s4, s5, s6, s7, s8, s9, s10, s11, s12, s13, s14, s15⟩
                      go_simp
                      with_reducible rfl
                    rotate_left
                    · simp only [Act.put, List.setIfInBounds_toArray, List.set_cons_zero, List.set_cons_succ, i64_w, i32_w]
                      rfl
                    refine take_ (i := 6) (N := some 52) (v := ?_) (a' := ?_) #[true, true, true, true, true, true, true, true, false, false, true, false, false] rfl rfl (take_ofW HT_.out HW_.out (by kernel_rfl)) (fun _ _ _ h => h) (Or.inl ⟨by rfl, ?_⟩) hHeld ?_ ?_
                    rotate_left
                    · rintro w' ⟨s0, s1, s2, s3, s4, s5, s6, s7, s8, s9, s10, s11, s12, s13, s14, s15⟩
                      go_simp
                      with_reducible rfl
                    rotate_left
                    · simp only [Act.put, List.setIfInBounds_toArray, List.set_cons_zero, List.set_cons_succ, i64_w, i32_w]
                      rfl
                    refine pure_ (i := 8) (N := some 54) (v := ?_) (a' := ?_) #[true, true, true, true, true, true, true, true, true, false, true, false, false] rfl rfl (any_of HT_.out (by kernel_rfl)) (fun _ _ _ h => h) (Or.inl ⟨by rfl, ?_⟩) ?_ ?_
                    rotate_left
                    · intro w'
                      go_simp
                      with_reducible rfl
                    rotate_left
                    · simp only [Act.put, List.setIfInBounds_toArray, List.set_cons_zero, List.set_cons_succ, i64_w, i32_w]
                      rfl
                    refine take_ (i := 9) (N := some 55) (v := ?_) (a' := ?_) #[true, true, true, true, true, true, true, true, true, true, true, false, false] rfl rfl (take_ofW HT_.out HW_.out (by kernel_rfl)) (fun _ _ _ h => h) (Or.inl ⟨by rfl, ?_⟩) hHeld ?_ ?_
                    rotate_left
                    · rintro w' ⟨s0, s1, s2, s3, s4, s5, s6, s7, s8, s9, s10, s11, s12, s13, s14, s15⟩
                      go_simp
                      with_reducible rfl
                    rotate_left
                    · simp only [Act.put, List.setIfInBounds_toArray, List.set_cons_zero, List.set_cons_succ, i64_w, i32_w]
                      rfl
                    refine one_ (i := 11) (N := some 57) #[true, true, true, true, true, true, true, true, true, true, true, true, false] rfl rfl (one_of HT_.out (by kernel_rfl)) (by decide) (fun K hK => ?_)
                    refine goes_ Tryd.func8 (by kernel_rfl) rfl #[.agg #[.int .i64 ((rd_T32 l0_2 x7_2).f0), .string ((rd_T32 l0_2 x7_2).f1), .slice A151_2 ((rd_T32 l0_2 x7_2).f2).length c151_2, .int .i64 ((rd_T32 l0_2 x7_2).f3)], .agg #[.int .i64 ((rd_T32 l1_2 x7_2).f0), .string ((rd_T32 l1_2 x7_2).f1), .slice A152_2 ((rd_T32 l1_2 x7_2).f2).length c152_2, .int .i64 ((rd_T32 l1_2 x7_2).f3)], .bool a2] (by rfl) rfl rfl (by (try simp only [List.map_toArray, List.map_cons, List.map_nil]); first | done | rfl | (simp only [List.length_drop, List.length_take]; rfl)) ?_
                    with_reducible refine (ih k2 (by have := HJ3.out; have := HK2.out; omega) ((rd_T32 l0_2 x7_2).f0) ((rd_T32 l0_2 x7_2).f1) _ _ ((rd_T32 l0_2 x7_2).f2) ((rd_T32 l0_2 x7_2).f3) ((rd_T32 l1_2 x7_2).f0) ((rd_T32 l1_2 x7_2).f1) _ _ ((rd_T32 l1_2 x7_2).f2) ((rd_T32 l1_2 x7_2).f3) a2 false _ ?side1 ?side2 ?side3 ?side4 A30.out).mono ?_
                    (case side1 => repeat (first | exact (Kd.C_below HR151_2.out HB.out) | (with_reducible refine Kd.C_alloc ?_ _) | (with_reducible refine Kd.C_drewN ?_ _) | (with_reducible refine Kd.C_drew ?_)))
                    (case side2 => exact HC151_2.out)
                    (case side3 => repeat (first | exact (Kd.C_below HR152_2.out HB.out) | (with_reducible refine Kd.C_alloc ?_ _) | (with_reducible refine Kd.C_drewN ?_ _) | (with_reducible refine Kd.C_drew ?_)))
                    (case side4 => exact HC152_2.out)
                    rintro e w39 ⟨rfl, hb⟩
                    refine ⟨_, rfl, ?_⟩
                    have n0_ := Aside0.mk (blk_below (g := gb149) (o := .cells #[.int .i64 a0_0, .string a0_1, .slice (some ad151) l0_2.length c0_2, .int .i64 a0_3] 32 (0, 0)) (by (with_reducible repeat (first | refine blk_drewN ?_ _ | refine blk_drew ?_ | refine blk_alloc ?_ _)); exact BK149.out) hb)
                    have n1_ := Aside0.mk (blk_below (g := gb150) (o := .cells #[.int .i64 a1_0, .string a1_1, .slice (some ad152) l1_2.length c1_2, .int .i64 a1_3] 32 (0, 0)) (by (with_reducible repeat (first | refine blk_drewN ?_ _ | refine blk_drew ?_ | refine blk_alloc ?_ _)); exact BK150.out) hb)
                    have n2_ := Aside0.mk (below_step (by repeat (first | (with_reducible first | exact HB.out | apply below_alloc | apply pw_below_drewN | apply below_drew1 | refine below_set ?_ GE149.out | refine below_set ?_ GE150.out) | exact HB.out)) hb)
                    clear BK149
                    clear BK150
                    clear HB
                    have BK149 := n0_
                    have BK150 := n1_
                    have HB := n2_
                    clear n0_ n1_ n2_
                    (try clear hb)
                    (try clear hb2)
                    (try clear hk)
                    (try clear hi)
                    refine hK.out _ _ ⟨(blk_cell BK149.out 0).trans rfl, (blk_cell BK149.out 1).trans rfl, (blk_cell BK149.out 2).trans rfl, (blk_cell BK149.out 3).trans rfl, (blk_cell BK150.out 0).trans rfl, (blk_cell BK150.out 1).trans rfl, (blk_cell BK150.out 2).trans rfl, (blk_cell BK150.out 3).trans rfl, ((HB.out.cell (World.block_lt_of_cell? w _ hw151_0)).trans hw151_0), ((HB.out.cell (World.block_lt_of_cell? w _ hw151_1)).trans hw151_1), ((HB.out.cell (World.block_lt_of_cell? w _ hw151_2)).trans hw151_2), ((HB.out.cell (World.block_lt_of_cell? w _ hw151_3)).trans hw151_3), ((HB.out.cell (World.block_lt_of_cell? w _ hw152_0)).trans hw152_0), ((HB.out.cell (World.block_lt_of_cell? w _ hw152_1)).trans hw152_1), ((HB.out.cell (World.block_lt_of_cell? w _ hw152_2)).trans hw152_2), ((HB.out.cell (World.block_lt_of_cell? w _ hw152_3)).trans hw152_3)⟩ (fun hHeld => ?_)
                    clear hK K
                    refine norm_ (a' := ?_) ?_ ?_
                    rotate_left
                    · show Act.put _ (some 57) _ = _
                      simp only [Act.put, List.setIfInBounds_toArray, List.set_cons_zero, List.set_cons_succ, i64_w, i32_w]
                      rfl
                    refine pure_ (i := 12) (N := some 58) (v := ?_) (a' := ?_) #[true, true, true, true, true, true, true, true, true, true, true, true, true] rfl rfl (any_of HT_.out (by kernel_rfl)) (fun _ _ _ h => h) (Or.inl ⟨by rfl, ?_⟩) ?_ ?_
                    rotate_left
                    · intro w'
                      go_simp
                      with_reducible rfl
                    rotate_left
                    · simp only [Act.put, List.setIfInBounds_toArray, List.set_cons_zero, List.set_cons_succ, i64_w, i32_w]
                      rfl
                    refine done_ (done_of HT_.out (by kernel_rfl)) ?_
                    try go_wp2
                    go_ret
                    exact ⟨by first | rfl | (simp [errW_none, errW_some] <;> rfl) | (simp [*, errW_none, errW_some] <;> rfl), by repeat (first | (with_reducible first | exact HB.out | apply below_alloc | apply pw_below_drewN | apply below_drew1 | refine below_set ?_ GE149.out | refine below_set ?_ GE150.out) | exact HB.out)⟩
                · rw [if_neg c29] at H
                  exact absurd H (by simp)
              · rw [if_neg c28] at H
                exact absurd H (by simp)
            · rw [if_neg c27] at H
              have c27b0 : decide (x7_2 < (l0_2.length : Int)) = false := decide_eq_false c27
              clear c27
              obtain rfl := Option.some.inj H
              have hnb40 := NB149_150.out
              have hnc40 := NB150_149.out
              have hcz41_0 : wr.cell? ⟨gb149, 0, none⟩ = some (.int .i64 a0_0) := (blk_cell BK149.out 0).trans rfl
              have hcz41_1 : wr.cell? ⟨gb149, 1, none⟩ = some (.string a0_1) := (blk_cell BK149.out 1).trans rfl
              have hcz41_2 : wr.cell? ⟨gb149, 2, none⟩ = some (.slice A0_2 l0_2.length c0_2) := (blk_cell BK149.out 2).trans rfl
              have hcz41_3 : wr.cell? ⟨gb149, 3, none⟩ = some (.int .i64 a0_3) := (blk_cell BK149.out 3).trans rfl
              have hfz41_0 := blk_frozen BK149.out 0
              have hfz41_1 := blk_frozen BK149.out 1
              have hfz41_2 := blk_frozen BK149.out 2
              have hfz41_3 := blk_frozen BK149.out 3
              go_wp2
              go_ret
              exact ⟨by first | rfl | (simp [errW_none, errW_some] <;> rfl) | (simp [*, errW_none, errW_some] <;> rfl), by repeat (first | (with_reducible first | exact HB.out | apply below_alloc | apply pw_below_drewN | apply below_drew1 | refine below_set ?_ GE149.out | refine below_set ?_ GE150.out) | exact HB.out)⟩
end Go.Proofs.YtnjoncbgekonbaaDoor.PExpr
end
section
namespace Go.Proofs.YtnjoncbgekonbaaDoor.PExpr
open Go.RowKit Go.Proofs.YtnjoncbgekonbaaDoorW.PrintWords Go.Proofs.YtnjoncbgekonbaaDoorW.PrintLast Go.Proofs.YtnjoncbgekonbaaDoorW.PrintMore
attribute [local go_sem] max2_int min2_int max_two min_two max_three min_three max_four min_four   -- for this text's walks alone
set_option linter.unusedVariables false
set_option linter.unusedSimpArgs false
mutual
def computuslaw22_taken.l0 : Nat → Int → Int → ByteArray → List (S24) → Int → Int → ByteArray → List (S32) → Int → Option (Int × ByteArray × (List (S32)) × Int)
  | 0, _, _, _, _, _, _, _, _, _ => none
  | k + 1, x4, x155000, x155001, x155002, x155003, x157000, x157001, x157002, x157003 => if x4 < (x155002.length : Int) then (if 0 ≤ x4 then ((computuslaw22_taken.f k ((rd_T24 x155002 x4).f0) ((rd_T24 x155002 x4).f1) ((rd_T24 x155002 x4).f2) ((rd_T24 x155002 x4).f3)).bind fun bt158 => (if x157002.length < 2513169434916 then (computuslaw22_taken.l0 k (wrap64 (x4 + 1)) x155000 x155001 x155002 x155003 x157000 x157001 (x157002 ++ [(⟨bt158.1, bt158.2.1, bt158.2.2.1, bt158.2.2.2⟩ : S32)]) x157003) else (none))) else (none)) else (some (x157000, x157001, x157002, x157003))
def computuslaw22_taken.f : Nat → Int → ByteArray → List (S24) → Int → Option (Int × ByteArray × (List (S32)) × Int)
  | 0, _, _, _, _ => none
  | k + 1, a0_0, a0_1, l0_2, a0_3 => computuslaw22_taken.l0 k 0 a0_0 a0_1 l0_2 a0_3 a0_0 a0_1 ([] : List (S32)) a0_3
end
theorem computuslaw22_taken.mono_l : ∀ k, (∀ y0 y1 y2 y3, LeO (computuslaw22_taken.f k y0 y1 y2 y3) (computuslaw22_taken.f (k + 1) y0 y1 y2 y3)) ∧ (∀ y0 y1 y2 y3 y4 y5 y6 y7 y8, LeO (computuslaw22_taken.l0 k y0 y1 y2 y3 y4 y5 y6 y7 y8) (computuslaw22_taken.l0 (k + 1) y0 y1 y2 y3 y4 y5 y6 y7 y8))
  | 0 => ⟨fun _ _ _ _ r h => by simp [computuslaw22_taken.f] at h, fun _ _ _ _ _ _ _ _ _ r h => by simp [computuslaw22_taken.l0] at h⟩
  | k + 1 => by
    obtain ⟨ih0, ih1⟩ := computuslaw22_taken.mono_l k
    refine ⟨?_, ?_⟩
    · intro y0 y1 y2 y3
      unfold computuslaw22_taken.f
      repeat' first
      | (with_reducible exact ih0 _ _ _ _)
      | (with_reducible exact ih1 _ _ _ _ _ _ _ _ _)
      | (with_reducible exact LeO.refl _)
      | (with_reducible exact LeO.none _)
      | (with_reducible refine LeO.ite ?_ ?_)
      | (with_reducible refine LeO.bind ?_ (fun _ => ?_))
      | exact ih0 _ _ _ _
      | exact ih1 _ _ _ _ _ _ _ _ _
      | exact LeO.none _
      | refine LeO.ite ?_ ?_
      | refine LeO.bind ?_ (fun _ => ?_)
    · intro y0 y1 y2 y3 y4 y5 y6 y7 y8
      unfold computuslaw22_taken.l0
      repeat' first
      | (with_reducible exact ih0 _ _ _ _)
      | (with_reducible exact ih1 _ _ _ _ _ _ _ _ _)
      | (with_reducible exact LeO.refl _)
      | (with_reducible exact LeO.none _)
      | (with_reducible refine LeO.ite ?_ ?_)
      | (with_reducible refine LeO.bind ?_ (fun _ => ?_))
      | exact ih0 _ _ _ _
      | exact ih1 _ _ _ _ _ _ _ _ _
      | exact LeO.none _
      | refine LeO.ite ?_ ?_
      | refine LeO.bind ?_ (fun _ => ?_)
theorem computuslaw22_taken.mono : ∀ a0 a1 a2 a3 k, LeO (computuslaw22_taken.f k a0 a1 a2 a3) (computuslaw22_taken.f (k + 1) a0 a1 a2 a3) := by
  intro a0 a1 a2 a3 k
  obtain ⟨ih0, ih1⟩ := computuslaw22_taken.mono_l k
  exact ih0 a0 a1 a2 a3
def computuslaw22_taken.T5 : Bool × List (List Nat × List Nat) := (true, [([], []), ([0], [0]), ([], []), ([2], [2]), ([], []), ([3, 4], [3, 4]), ([5], [5]), ([6], [6]), ([7], [7]), ([1, 8, 7], [1, 8]), ([0, 1, 2, 3, 4, 5, 6, 7, 8, 9], []), ([10, 9, 9, 0, 1, 2, 3, 4, 5, 6, 7, 8, 9], [9, 10])])
def computuslaw22_taken.B5 : List Nat := [0, 1, 0, 4, 0, 28, 60, 124, 252, 511, 1023, 2047]
theorem computuslaw22_taken.tab5 : rtab .any (opsOf Tryd.f9 5) = computuslaw22_taken.T5 := by kernel_rfl
theorem computuslaw22_taken.bits5 : waitsOk computuslaw22_taken.T5.2 computuslaw22_taken.B5 = true := by kernel_rfl
set_option maxHeartbeats 8000000 in
set_option maxRecDepth 100000 in
theorem computuslaw22_taken.calls (k : Nat) : ∀ (a0_0 : Int) (a0_1 : ByteArray) (A0_2 : Option Addr) (c0_2 : Nat) (l0_2 : List (S24)) (a0_3 : Int) (r1 : Int) (r2 : ByteArray) (r3 : List (S32)) (r4 : Int) (w : World) (hr0_2 : Kd.C k24 w A0_2 l0_2.length l0_2) (hc0_2 : l0_2.length ≤ c0_2) (h : computuslaw22_taken.f k a0_0 a0_1 l0_2 a0_3 = some (r1, r2, r3, r4)),
    Calls Tryd.prog 9 #[.agg #[.int .i64 a0_0, .string a0_1, .slice A0_2 l0_2.length c0_2, .int .i64 a0_3]] w fun e w' => ∃ v2_ : Value, e = .returned (.agg #[.int .i64 r1, .string r2, v2_, .int .i64 r4]) ∧ Kd.R k32 32 w' w.heap.size (fun _ => True) v2_ r3 ∧ Below w.heap.size w w' := by
  induction k using Nat.strongRecOn with
  | _ k ih =>
  intro a0_0 a0_1 A0_2 c0_2 l0_2 a0_3 r1 r2 r3 r4 w hr0_2 hc0_2 h
  cases k with
  | zero => exact absurd h (by simp [computuslaw22_taken.f])
  | succ k =>
  simp only [computuslaw22_taken.f] at h
  have hu24 := Tryd.underlying24
  have hu32 := Tryd.underlying32
  have HR0_2 := Aside0.mk hr0_2
  have HC0_2 := Aside0.mk hc0_2
  clear hr0_2 hc0_2
  have HB := Aside0.mk (Below.refl w.heap.size w)
  have H : (computuslaw22_taken.l0 k 0 a0_0 a0_1 l0_2 a0_3 a0_0 a0_1 ([] : List (S32)) a0_3) = some (r1, r2, r3, r4) := h
  clear h
  have H' := Aside0.mk H
  clear H
  go_enter Tryd.func9, Tryd.ntmps9
  go_wp2_with (first | ((with_reducible refine gate_dst (N := 1) rfl ?_); refine box_event ?hg (N := 1) ?hd (cs := #[.int .i64 a0_0, .string a0_1, .slice A0_2 l0_2.length c0_2, .int .i64 a0_3]) (t := 24) ?hr ?_; (case hd => rfl); (case hg => rfl); (case hr => first | (go_simp; done) | (go_simp; rfl)); intro gb154 hg w2 hbox hb; have n0_ := Aside0.mk (below_step (by repeat (first | (with_reducible first | exact HB.out | apply below_alloc | apply pw_below_drewN | apply below_drew1) | exact HB.out)) hb); have n1_ := Aside0.mk (hbox); have n2_ := Aside0.mk ((by rw [hg]; exact (below_size (by repeat (first | (with_reducible first | exact HB.out | apply below_alloc | apply pw_below_drewN | apply below_drew1) | exact HB.out))) : w.heap.size ≤ gb154)); have n3_ := Aside0.mk ((by rw [hg]; exact (below_size (by repeat (first | (with_reducible first | exact HB.out | apply below_alloc | apply pw_below_drewN | apply below_drew1) | exact HB.out))) : w.heap.size ≤ gb154)); clear HB; have HB := n0_; have BK154 := n1_; have GW154 := n2_; have GE154 := n3_; clear n0_ n1_ n2_ n3_; clear hb hbox hg) | ((with_reducible refine gate_dst (N := 2) rfl ?_); refine box_event ?hg (N := 2) ?hd (cs := #[.int .i64 0, .string (⟨#[]⟩ : ByteArray), .slice none 0 0, .int .i64 0]) (t := 32) ?hr ?_; (case hd => rfl); (case hg => rfl); (case hr => first | (go_simp; done) | (go_simp; rfl)); intro gb155 hg w3 hbox hb; have n0_ := Aside0.mk (blk_below (g := gb154) (o := .cells #[.int .i64 a0_0, .string a0_1, .slice A0_2 l0_2.length c0_2, .int .i64 a0_3] 24 (0, 0)) (by (with_reducible repeat (first | refine blk_drewN ?_ _ | refine blk_drew ?_ | refine blk_alloc ?_ _)); exact BK154.out) hb); have n1_ := Aside0.mk (below_step (by repeat (first | (with_reducible first | exact HB.out | apply below_alloc | apply pw_below_drewN | apply below_drew1 | refine below_set ?_ GE154.out) | exact HB.out)) hb); have n2_ := Aside0.mk (hbox); have n3_ := Aside0.mk ((by rw [hg]; exact (below_size (by repeat (first | (with_reducible first | exact HB.out | apply below_alloc | apply pw_below_drewN | apply below_drew1 | refine below_set ?_ GE154.out) | exact HB.out))) : w.heap.size ≤ gb155)); have n4_ := Aside0.mk ((by rw [hg]; exact (below_size (by repeat (first | (with_reducible first | exact HB.out | apply below_alloc | apply pw_below_drewN | apply below_drew1 | refine below_set ?_ GE154.out) | exact HB.out))) : w.heap.size ≤ gb155)); have n5_ := Aside0.mk ((by rw [hg]; exact Nat.ne_of_lt (blk_lt (g := gb154) (o := .cells #[.int .i64 a0_0, .string a0_1, .slice A0_2 l0_2.length c0_2, .int .i64 a0_3] 24 (0, 0)) (by (with_reducible repeat (first | refine blk_drewN ?_ _ | refine blk_drew ?_ | refine blk_alloc ?_ _)); exact BK154.out)) : gb154 ≠ gb155)); have n6_ := Aside0.mk ((by rw [hg]; exact Nat.ne_of_gt (blk_lt (g := gb154) (o := .cells #[.int .i64 a0_0, .string a0_1, .slice A0_2 l0_2.length c0_2, .int .i64 a0_3] 24 (0, 0)) (by (with_reducible repeat (first | refine blk_drewN ?_ _ | refine blk_drew ?_ | refine blk_alloc ?_ _)); exact BK154.out)) : gb155 ≠ gb154)); clear BK154; clear HB; have BK154 := n0_; have HB := n1_; have BK155 := n2_; have GW155 := n3_; have GE155 := n4_; have NB154_155 := n5_; have NB155_154 := n6_; clear n0_ n1_ n2_ n3_ n4_ n5_ n6_; clear hb hbox hg; have hnb4 := NB154_155.out; have hnc4 := NB155_154.out; have hcz5_0 : w3.cell? ⟨gb154, 0, none⟩ = some (.int .i64 a0_0) := (blk_cell BK154.out 0).trans rfl; have hcz5_1 : w3.cell? ⟨gb154, 1, none⟩ = some (.string a0_1) := (blk_cell BK154.out 1).trans rfl; have hcz5_2 : w3.cell? ⟨gb154, 2, none⟩ = some (.slice A0_2 l0_2.length c0_2) := (blk_cell BK154.out 2).trans rfl; have hcz5_3 : w3.cell? ⟨gb154, 3, none⟩ = some (.int .i64 a0_3) := (blk_cell BK154.out 3).trans rfl; have hfz5_0 := blk_frozen BK154.out 0; have hfz5_1 := blk_frozen BK154.out 1; have hfz5_2 := blk_frozen BK154.out 2; have hfz5_3 := blk_frozen BK154.out 3) | ((with_reducible refine gate_dst (N := 3) rfl ?_); refine box_event ?hg (N := 3) ?hd (cs := #[.int .i64 0, .string (⟨#[]⟩ : ByteArray), .slice none 0 0, .int .i64 0]) (t := 32) ?hr ?_; (case hd => rfl); (case hg => rfl); (case hr => first | (go_simp; done) | (go_simp; rfl)); intro gb156 hg w6 hbox hb; have n0_ := Aside0.mk (blk_below (g := gb154) (o := .cells #[.int .i64 a0_0, .string a0_1, .slice A0_2 l0_2.length c0_2, .int .i64 a0_3] 24 (0, 0)) (by (with_reducible repeat (first | refine blk_drewN ?_ _ | refine blk_drew ?_ | refine blk_alloc ?_ _)); exact BK154.out) hb); have n1_ := Aside0.mk (blk_below (g := gb155) (o := .cells #[.int .i64 0, .string (⟨#[]⟩ : ByteArray), .slice none 0 0, .int .i64 0] 32 (0, 0)) (by (with_reducible repeat (first | refine blk_drewN ?_ _ | refine blk_drew ?_ | refine blk_alloc ?_ _)); exact BK155.out) hb); have n2_ := Aside0.mk (below_step (by repeat (first | (with_reducible first | exact HB.out | apply below_alloc | apply pw_below_drewN | apply below_drew1 | refine below_set ?_ GE154.out | refine below_set ?_ GE155.out) | exact HB.out)) hb); have n3_ := Aside0.mk (hbox); have n4_ := Aside0.mk ((by rw [hg]; exact (below_size (by repeat (first | (with_reducible first | exact HB.out | apply below_alloc | apply pw_below_drewN | apply below_drew1 | refine below_set ?_ GE154.out | refine below_set ?_ GE155.out) | exact HB.out))) : w.heap.size ≤ gb156)); have n5_ := Aside0.mk ((by rw [hg]; exact (below_size (by repeat (first | (with_reducible first | exact HB.out | apply below_alloc | apply pw_below_drewN | apply below_drew1 | refine below_set ?_ GE154.out | refine below_set ?_ GE155.out) | exact HB.out))) : w.heap.size ≤ gb156)); have n6_ := Aside0.mk ((by rw [hg]; exact Nat.ne_of_lt (blk_lt (g := gb154) (o := .cells #[.int .i64 a0_0, .string a0_1, .slice A0_2 l0_2.length c0_2, .int .i64 a0_3] 24 (0, 0)) (by (with_reducible repeat (first | refine blk_drewN ?_ _ | refine blk_drew ?_ | refine blk_alloc ?_ _)); exact BK154.out)) : gb154 ≠ gb156)); have n7_ := Aside0.mk ((by rw [hg]; exact Nat.ne_of_gt (blk_lt (g := gb154) (o := .cells #[.int .i64 a0_0, .string a0_1, .slice A0_2 l0_2.length c0_2, .int .i64 a0_3] 24 (0, 0)) (by (with_reducible repeat (first | refine blk_drewN ?_ _ | refine blk_drew ?_ | refine blk_alloc ?_ _)); exact BK154.out)) : gb156 ≠ gb154)); have n8_ := Aside0.mk ((by rw [hg]; exact Nat.ne_of_lt (blk_lt (g := gb155) (o := .cells #[.int .i64 0, .string (⟨#[]⟩ : ByteArray), .slice none 0 0, .int .i64 0] 32 (0, 0)) (by (with_reducible repeat (first | refine blk_drewN ?_ _ | refine blk_drew ?_ | refine blk_alloc ?_ _)); exact BK155.out)) : gb155 ≠ gb156)); have n9_ := Aside0.mk ((by rw [hg]; exact Nat.ne_of_gt (blk_lt (g := gb155) (o := .cells #[.int .i64 0, .string (⟨#[]⟩ : ByteArray), .slice none 0 0, .int .i64 0] 32 (0, 0)) (by (with_reducible repeat (first | refine blk_drewN ?_ _ | refine blk_drew ?_ | refine blk_alloc ?_ _)); exact BK155.out)) : gb156 ≠ gb155)); clear BK154; clear BK155; clear HB; have BK154 := n0_; have BK155 := n1_; have HB := n2_; have BK156 := n3_; have GW156 := n4_; have GE156 := n5_; have NB154_156 := n6_; have NB156_154 := n7_; have NB155_156 := n8_; have NB156_155 := n9_; clear n0_ n1_ n2_ n3_ n4_ n5_ n6_ n7_ n8_ n9_; clear hb hbox hg; have hnb7 := NB156_154.out; have hnc7 := NB154_156.out; have hnb8 := NB156_155.out; have hnc8 := NB155_156.out; have hcz9_0 : w6.cell? ⟨gb156, 0, none⟩ = some (.int .i64 0) := (blk_cell BK156.out 0).trans rfl; have hcz9_1 : w6.cell? ⟨gb156, 1, none⟩ = some (.string (⟨#[]⟩ : ByteArray)) := (blk_cell BK156.out 1).trans rfl; have hcz9_2 : w6.cell? ⟨gb156, 2, none⟩ = some (.slice none 0 0) := (blk_cell BK156.out 2).trans rfl; have hcz9_3 : w6.cell? ⟨gb156, 3, none⟩ = some (.int .i64 0) := (blk_cell BK156.out 3).trans rfl; have hfz9_0 := blk_frozen BK156.out 0; have hfz9_1 := blk_frozen BK156.out 1; have hfz9_2 := blk_frozen BK156.out 2; have hfz9_3 := blk_frozen BK156.out 3))
  go_loopg [4] k (fun kq v4 w' => ∃ (x4_1 : Int) (x157002_1 : List (S32)) (u157002 : Value), v4 = .int .i64 x4_1 ∧ Aside0 (computuslaw22_taken.l0 kq x4_1 a0_0 a0_1 l0_2 a0_3 a0_0 a0_1 x157002_1 a0_3 = some (r1, r2, r3, r4)) ∧ Aside0 (kq ≤ k) ∧ Aside0 (Kd.R k32 32 w' w.heap.size (fun k_ => k_ ≠ gb155 ∧ k_ ≠ gb156) u157002 x157002_1) ∧ Aside0 (w'.heap[gb154]? = some (.cells #[.int .i64 a0_0, .string a0_1, (.slice A0_2 l0_2.length c0_2), .int .i64 a0_3] 24 (0, 0))) ∧ Aside0 (w'.heap[gb155]? = some (.cells #[.int .i64 0, .string (⟨#[]⟩ : ByteArray), (.slice none 0 0), .int .i64 0] 32 (0, 0))) ∧ Aside0 (w'.heap[gb156]? = some (.cells #[.int .i64 a0_0, .string a0_1, u157002, .int .i64 a0_3] 32 (0, 0))) ∧ Aside0 (Below w.heap.size w w'))
  case atStart => exact ⟨(0), (([] : List (S32))), (.slice none 0 0), (by first | rfl | (simp; done) | (simp [*]; done)), H', ⟨Nat.le_refl _⟩, ⟨by first | exact Kd.R_nil _ _ _ _ _ | exact Kd.N_nil _ _ _ _ _ | exact Kd.V_nil _ _ _ _ _ | exact Kd.Q_nil _ _ _ _ _ | exact Kd.S_nil _ _ _ _ _⟩, ⟨by (with_reducible repeat (first | refine blk_drewN ?_ _ | refine blk_drew ?_ | refine blk_alloc ?_ _)); refine blk_far ?_ NB154_156.out _; (with_reducible repeat (first | refine blk_drewN ?_ _ | refine blk_drew ?_ | refine blk_alloc ?_ _)); refine blk_far ?_ NB154_156.out _; (with_reducible repeat (first | refine blk_drewN ?_ _ | refine blk_drew ?_ | refine blk_alloc ?_ _)); refine blk_far ?_ NB154_156.out _; (with_reducible repeat (first | refine blk_drewN ?_ _ | refine blk_drew ?_ | refine blk_alloc ?_ _)); refine blk_far ?_ NB154_156.out _; (with_reducible repeat (first | refine blk_drewN ?_ _ | refine blk_drew ?_ | refine blk_alloc ?_ _)); exact BK154.out⟩, ⟨by (with_reducible repeat (first | refine blk_drewN ?_ _ | refine blk_drew ?_ | refine blk_alloc ?_ _)); refine blk_far ?_ NB155_156.out _; (with_reducible repeat (first | refine blk_drewN ?_ _ | refine blk_drew ?_ | refine blk_alloc ?_ _)); refine blk_far ?_ NB155_156.out _; (with_reducible repeat (first | refine blk_drewN ?_ _ | refine blk_drew ?_ | refine blk_alloc ?_ _)); refine blk_far ?_ NB155_156.out _; (with_reducible repeat (first | refine blk_drewN ?_ _ | refine blk_drew ?_ | refine blk_alloc ?_ _)); refine blk_far ?_ NB155_156.out _; (with_reducible repeat (first | refine blk_drewN ?_ _ | refine blk_drew ?_ | refine blk_alloc ?_ _)); exact BK155.out⟩, ⟨by (with_reducible repeat (first | refine blk_drewN ?_ _ | refine blk_drew ?_ | refine blk_alloc ?_ _)); refine blk_put (cs := #[.int .i64 a0_0, .string a0_1, .slice none 0 0, .int .i64 0]) ?_ 3 _ rfl; (with_reducible repeat (first | refine blk_drewN ?_ _ | refine blk_drew ?_ | refine blk_alloc ?_ _)); refine blk_put (cs := #[.int .i64 a0_0, .string a0_1, .slice none 0 0, .int .i64 0]) ?_ 2 _ rfl; (with_reducible repeat (first | refine blk_drewN ?_ _ | refine blk_drew ?_ | refine blk_alloc ?_ _)); refine blk_put (cs := #[.int .i64 a0_0, .string (⟨#[]⟩ : ByteArray), .slice none 0 0, .int .i64 0]) ?_ 1 _ rfl; (with_reducible repeat (first | refine blk_drewN ?_ _ | refine blk_drew ?_ | refine blk_alloc ?_ _)); refine blk_put (cs := #[.int .i64 0, .string (⟨#[]⟩ : ByteArray), .slice none 0 0, .int .i64 0]) ?_ 0 _ rfl; (with_reducible repeat (first | refine blk_drewN ?_ _ | refine blk_drew ?_ | refine blk_alloc ?_ _)); exact BK156.out⟩, ⟨by repeat (first | (with_reducible first | exact HB.out | apply below_alloc | apply pw_below_drewN | apply below_drew1 | refine below_set ?_ GE154.out | refine below_set ?_ GE155.out | refine below_set ?_ GE156.out) | exact HB.out)⟩⟩
  case round =>
    clear H'
    try clear p2
    try clear c4
    try clear c7
    try clear c8
    try clear c9
    try clear hcz5_0
    try clear hcz5_1
    try clear hcz5_2
    try clear hcz5_3
    try clear hcz9_0
    try clear hcz9_1
    try clear hcz9_2
    try clear hcz9_3
    try clear hfz5_0
    try clear hfz5_1
    try clear hfz5_2
    try clear hfz5_3
    try clear hfz9_0
    try clear hfz9_1
    try clear hfz9_2
    try clear hfz9_3
    obtain ⟨x4_1, x157002_1, u157002, rfl, HA, HK1, HO_157002, BK154, BK155, BK156, HB⟩ := hrel
    cases gk with
    | zero => exact absurd HA.out (by simp [computuslaw22_taken.l0])
    | succ k1 =>
      have H := HA.out
      clear HA
      simp only [computuslaw22_taken.l0] at H
      by_cases c10 : x4_1 < (l0_2.length : Int)
      · rw [if_pos c10] at H
        have c10b0 : decide (x4_1 < (l0_2.length : Int)) = true := decide_eq_true c10
        clear c10
        by_cases c11 : 0 ≤ x4_1
        · rw [if_pos c11] at H
          have c11b0 : decide (0 ≤ x4_1) = true := decide_eq_true c11
          clear c11
          replace H := Option.bind_eq_some_iff.mp H
          obtain ⟨⟨t158, t159, t160, t163⟩, A120, H⟩ := H
          replace H : (if x157002_1.length < 2513169434916 then (computuslaw22_taken.l0 k1 (wrap64 (x4_1 + 1)) a0_0 a0_1 l0_2 a0_3 a0_0 a0_1 (x157002_1 ++ [(⟨t158, t159, t160, t163⟩ : S32)]) a0_3) else (none)) = some (r1, r2, r3, r4) := H
          have A12 := Aside0.mk A120
          clear A120
          by_cases c13 : x157002_1.length < 2513169434916
          · rw [if_pos c13] at H
            have LMc13 := Aside0.mk c13
            clear c13
            obtain ⟨y164, hy164⟩ : ∃ y_ : List (S32), y_ = (x157002_1 ++ [(⟨t158, t159, t160, t163⟩ : S32)]) := ⟨_, rfl⟩
            replace H : (computuslaw22_taken.l0 k1 (wrap64 (x4_1 + 1)) a0_0 a0_1 l0_2 a0_3 a0_0 a0_1 y164 a0_3) = some (r1, r2, r3, r4) := by first | (rw [hy164]; with_reducible exact H) | (have H2_ := (Option.bind_some _ _).symm.trans H; rw [hy164]; with_reducible exact H2_) | (have H2_ := (Option.bind_some _ _).symm.trans H; with_reducible exact H2_) | with_reducible exact H | (rw [hy164]; exact H) | exact H
            have Ny164 := Aside0.mk hy164
            clear hy164
            have H' := Aside0.mk H
            clear H
            have hnb14 := NB154_155.out
            have hnc14 := NB155_154.out
            have hnb15 := NB154_156.out
            have hnc15 := NB156_154.out
            have hcz16_0 : wr.cell? ⟨gb154, 0, none⟩ = some (.int .i64 a0_0) := (blk_cell BK154.out 0).trans rfl
            have hcz16_1 : wr.cell? ⟨gb154, 1, none⟩ = some (.string a0_1) := (blk_cell BK154.out 1).trans rfl
            have hcz16_2 : wr.cell? ⟨gb154, 2, none⟩ = some (.slice A0_2 l0_2.length c0_2) := (blk_cell BK154.out 2).trans rfl
            have hcz16_3 : wr.cell? ⟨gb154, 3, none⟩ = some (.int .i64 a0_3) := (blk_cell BK154.out 3).trans rfl
            have hfz16_0 := blk_frozen BK154.out 0
            have hfz16_1 := blk_frozen BK154.out 1
            have hfz16_2 := blk_frozen BK154.out 2
            have hfz16_3 := blk_frozen BK154.out 3
            try go_wp2
            have n0_ := Aside0.mk (Kd.R_drew HO_157002.out)
            have n1_ := Aside0.mk (blk_drew BK154.out)
            have n2_ := Aside0.mk (blk_drew BK155.out)
            have n3_ := Aside0.mk (blk_drew BK156.out)
            have n4_ := Aside0.mk (below_drew1 HB.out)
            clear HO_157002
            clear BK154
            clear BK155
            clear BK156
            clear HB
            have HO_157002 := n0_
            have BK154 := n1_
            have BK155 := n2_
            have BK156 := n3_
            have HB := n4_
            clear n0_ n1_ n2_ n3_ n4_
            have p157 : 0 ≤ (x4_1 : Int) := of_decide_eq_true (by first | (with_reducible assumption) | assumption)
            have q157 : x4_1 < (l0_2.length : Int) := of_decide_eq_true (by first | (with_reducible assumption) | assumption)
            obtain ⟨ad157, A157_2, c157_2, e157, hx157_0, hx157_1, hx157_2, hx157_3, hl157_2, hi157_2⟩ := at_T24 HR0_2.out x4_1 p157 q157
            have hw157_3 := hx157_3
            have hw157_2 := hx157_2
            have hw157_1 := hx157_1
            have hw157_0 := hx157_0
            cases e157
            replace hx157_0 := (HB.out.cell (World.block_lt_of_cell? w _ hx157_0)).trans hx157_0
            replace hx157_1 := (HB.out.cell (World.block_lt_of_cell? w _ hx157_1)).trans hx157_1
            replace hx157_2 := (HB.out.cell (World.block_lt_of_cell? w _ hx157_2)).trans hx157_2
            replace hx157_3 := (HB.out.cell (World.block_lt_of_cell? w _ hx157_3)).trans hx157_3
            have HR157_2 := Aside0.mk hi157_2
            have HC157_2 := Aside0.mk hl157_2
            clear hi157_2 hl157_2
            replace p157 := eq_true p157
            replace q157 := eq_true q157
            refine start_ (n := 12) (S := fun w' => w'.cell? ⟨gb156, 0, none⟩ = some (.int .i64 a0_0) ∧ w'.cell? ⟨gb156, 1, none⟩ = some (.string a0_1) ∧ w'.cell? ⟨gb156, 2, none⟩ = some (u157002) ∧ w'.cell? ⟨gb156, 3, none⟩ = some (.int .i64 a0_3) ∧ w'.cell? ⟨gb154, 0, none⟩ = some (.int .i64 a0_0) ∧ w'.cell? ⟨gb154, 1, none⟩ = some (.string a0_1) ∧ w'.cell? ⟨gb154, 2, none⟩ = some (.slice (some ad157) l0_2.length c0_2) ∧ w'.cell? ⟨gb154, 3, none⟩ = some (.int .i64 a0_3) ∧ w'.cell? (ad157.add ((x4_1).toNat * 4)) = some (.int .i64 ((rd_T24 l0_2 x4_1).f0)) ∧ w'.cell? ⟨(ad157.add ((x4_1).toNat * 4)).block, (ad157.add ((x4_1).toNat * 4)).off + 1, none⟩ = some (.string ((rd_T24 l0_2 x4_1).f1)) ∧ w'.cell? ⟨(ad157.add ((x4_1).toNat * 4)).block, (ad157.add ((x4_1).toNat * 4)).off + 2, none⟩ = some (.slice A157_2 ((rd_T24 l0_2 x4_1).f2).length c157_2) ∧ w'.cell? ⟨(ad157.add ((x4_1).toNat * 4)).block, (ad157.add ((x4_1).toNat * 4)).off + 3, none⟩ = some (.int .i64 ((rd_T24 l0_2 x4_1).f3))) (ds := [11]) #[false, false, false, false, false, false, false, false, false, false, false, false] (by kernel_rfl) rfl rfl ⟨(blk_cell BK156.out 0).trans rfl, (blk_cell BK156.out 1).trans rfl, (blk_cell BK156.out 2).trans rfl, (blk_cell BK156.out 3).trans rfl, (blk_cell BK154.out 0).trans rfl, (blk_cell BK154.out 1).trans rfl, (blk_cell BK154.out 2).trans rfl, (blk_cell BK154.out 3).trans rfl, ((HB.out.cell (World.block_lt_of_cell? w _ hw157_0)).trans hw157_0), ((HB.out.cell (World.block_lt_of_cell? w _ hw157_1)).trans hw157_1), ((HB.out.cell (World.block_lt_of_cell? w _ hw157_2)).trans hw157_2), ((HB.out.cell (World.block_lt_of_cell? w _ hw157_3)).trans hw157_3)⟩ (fun hHeld => ?_); refine with_tabW computuslaw22_taken.tab5 computuslaw22_taken.bits5 (fun HT_ HW_ => ?_)
            generalize wr.drew = w17 at HO_157002 BK154 BK155 BK156 HB HR157_2 hx157_0 hx157_1 hx157_2 hx157_3 hHeld ⊢
            refine pure_ (i := 0) (N := some 19) (v := ?_) (a' := ?_) #[true, false, false, false, false, false, false, false, false, false, false, false] rfl rfl (any_of HT_.out (by kernel_rfl)) (fun _ _ _ h => h) (Or.inl ⟨by rfl, ?_⟩) ?_ ?_
            rotate_left
            · intro w'
              go_simp
              with_reducible rfl
            rotate_left
            · simp only [Act.put, List.setIfInBounds_toArray, List.set_cons_zero, List.set_cons_succ, i64_w, i32_w]
              rfl
            refine pure_ (i := 2) (N := some 21) (v := ?_) (a' := ?_) #[true, false, true, false, false, false, false, false, false, false, false, false] rfl rfl (any_of HT_.out (by kernel_rfl)) (fun _ _ _ h => h) (Or.inl ⟨by rfl, ?_⟩) ?_ ?_
            rotate_left
            · intro w'
              go_simp
              with_reducible rfl
            rotate_left
            · simp only [Act.put, List.setIfInBounds_toArray, List.set_cons_zero, List.set_cons_succ, i64_w, i32_w]
              rfl
            refine pure_ (i := 4) (N := some 23) (v := ?_) (a' := ?_) #[true, false, true, false, true, false, false, false, false, false, false, false] rfl rfl (any_of HT_.out (by kernel_rfl)) (fun _ _ _ h => h) (Or.inl ⟨by rfl, ?_⟩) ?_ ?_
            rotate_left
            · intro w'
              go_simp
              with_reducible rfl
            rotate_left
            · simp only [Act.put, List.setIfInBounds_toArray, List.set_cons_zero, List.set_cons_succ, i64_w, i32_w]
              rfl
            refine take_ (i := 1) (N := some 20) (v := ?_) (a' := ?_) #[true, true, true, false, true, false, false, false, false, false, false, false] rfl rfl (take_ofW HT_.out HW_.out (by kernel_rfl)) (fun _ _ _ h => h) (Or.inl ⟨by rfl, ?_⟩) hHeld ?_ ?_
            rotate_left
            · rintro w' ⟨s0, s1, s2, s3, s4, s5, s6, s7, s8, s9, s10, s11⟩
              go_simp
              with_reducible rfl
            rotate_left
            · simp only [Act.put, List.setIfInBounds_toArray, List.set_cons_zero, List.set_cons_succ, i64_w, i32_w]
              rfl
            refine take_ (i := 3) (N := some 22) (v := ?_) (a' := ?_) #[true, true, true, true, true, false, false, false, false, false, false, false] rfl rfl (take_ofW HT_.out HW_.out (by kernel_rfl)) (fun _ _ _ h => h) (Or.inl ⟨by rfl, ?_⟩) hHeld ?_ ?_
            rotate_left
            · rintro w' ⟨s0, s1, s2, s3, s4, s5, s6, s7, s8, s9, s10, s11⟩
              go_simp
              with_reducible rfl
            rotate_left
            · simp only [Act.put, List.setIfInBounds_toArray, List.set_cons_zero, List.set_cons_succ, i64_w, i32_w]
              rfl
            refine pure_ (i := 5) (N := some 24) (v := ?_) (a' := ?_) #[true, true, true, true, true, true, false, false, false, false, false, false] rfl rfl (any_of HT_.out (by kernel_rfl)) (fun _ _ _ h => h) (Or.inl ⟨by rfl, ?_⟩) ?_ ?_
            rotate_left
            · intro w'
              go_simp
              with_reducible rfl
            rotate_left
            · simp only [Act.put, List.setIfInBounds_toArray, List.set_cons_zero, List.set_cons_succ, i64_w, i32_w]
              rfl
            refine take_ (i := 6) (N := some 25) (v := ?_) (a' := ?_) #[true, true, true, true, true, true, true, false, false, false, false, false] rfl rfl (take_ofW HT_.out HW_.out (by kernel_rfl)) (fun _ _ _ h => h) (Or.inl ⟨by rfl, ?_⟩) hHeld ?_ ?_
            rotate_left
            · rintro w' ⟨s0, s1, s2, s3, s4, s5, s6, s7, s8, s9, s10, s11⟩
              go_simp
              with_reducible rfl
            rotate_left
            · simp only [Act.put, List.setIfInBounds_toArray, List.set_cons_zero, List.set_cons_succ, i64_w, i32_w]
              rfl
            refine one_ (i := 7) (N := some 26) #[true, true, true, true, true, true, true, true, false, false, false, false] rfl rfl (one_of HT_.out (by kernel_rfl)) (by decide) (fun K hK => ?_)
            refine goes_ Tryd.func9 (by kernel_rfl) rfl #[.agg #[.int .i64 ((rd_T24 l0_2 x4_1).f0), .string ((rd_T24 l0_2 x4_1).f1), .slice A157_2 ((rd_T24 l0_2 x4_1).f2).length c157_2, .int .i64 ((rd_T24 l0_2 x4_1).f3)]] (by rfl) rfl rfl (by (try simp only [List.map_toArray, List.map_cons, List.map_nil]); first | done | rfl | (simp only [List.length_drop, List.length_take]; rfl)) ?_
            with_reducible refine (ih k1 (by have := HK1.out; omega) ((rd_T24 l0_2 x4_1).f0) ((rd_T24 l0_2 x4_1).f1) _ _ ((rd_T24 l0_2 x4_1).f2) ((rd_T24 l0_2 x4_1).f3) t158 t159 t160 t163 _ ?side1 ?side2 A12.out).mono ?_
            (case side1 => repeat (first | exact (Kd.C_below HR157_2.out HB.out) | (with_reducible refine Kd.C_alloc ?_ _) | (with_reducible refine Kd.C_drewN ?_ _) | (with_reducible refine Kd.C_drew ?_)))
            (case side2 => exact HC157_2.out)
            rintro e w18 ⟨v161, rfl, ho0, hb⟩
            refine ⟨_, rfl, ?_⟩
            have n0_ := Aside0.mk (Kd.R_elder' (by (with_reducible repeat (first | apply Kd.R_alloc | apply Kd.R_drewN | apply Kd.R_drew)); exact HO_157002.out) (Kd.R_base ho0) hb)
            have n1_ := Aside0.mk (Kd.R_lower (Kd.R_newB (Kd.R_newB (Kd.R_new' ho0 (Kd.R_lt (by (with_reducible repeat (first | apply Kd.R_alloc | apply Kd.R_drewN | apply Kd.R_drew)); exact HO_157002.out))) (g := gb155) (o := .cells #[.int .i64 0, .string (⟨#[]⟩ : ByteArray), .slice none 0 0, .int .i64 0] 32 (0, 0)) (by (with_reducible repeat (first | refine blk_drewN ?_ _ | refine blk_drew ?_ | refine blk_alloc ?_ _)); exact BK155.out)) (g := gb156) (o := .cells #[.int .i64 a0_0, .string a0_1, u157002, .int .i64 a0_3] 32 (0, 0)) (by (with_reducible repeat (first | refine blk_drewN ?_ _ | refine blk_drew ?_ | refine blk_alloc ?_ _)); exact BK156.out)) (below_size (by repeat (first | (with_reducible first | exact HB.out | apply below_alloc | apply pw_below_drewN | apply below_drew1 | refine below_set ?_ GE154.out | refine below_set ?_ GE155.out | refine below_set ?_ GE156.out) | exact HB.out))))
            have n2_ := Aside0.mk (blk_below (g := gb154) (o := .cells #[.int .i64 a0_0, .string a0_1, .slice (some ad157) l0_2.length c0_2, .int .i64 a0_3] 24 (0, 0)) (by (with_reducible repeat (first | refine blk_drewN ?_ _ | refine blk_drew ?_ | refine blk_alloc ?_ _)); exact BK154.out) hb)
            have n3_ := Aside0.mk (blk_below (g := gb155) (o := .cells #[.int .i64 0, .string (⟨#[]⟩ : ByteArray), .slice none 0 0, .int .i64 0] 32 (0, 0)) (by (with_reducible repeat (first | refine blk_drewN ?_ _ | refine blk_drew ?_ | refine blk_alloc ?_ _)); exact BK155.out) hb)
            have n4_ := Aside0.mk (blk_below (g := gb156) (o := .cells #[.int .i64 a0_0, .string a0_1, u157002, .int .i64 a0_3] 32 (0, 0)) (by (with_reducible repeat (first | refine blk_drewN ?_ _ | refine blk_drew ?_ | refine blk_alloc ?_ _)); exact BK156.out) hb)
            have n5_ := Aside0.mk (below_step (by repeat (first | (with_reducible first | exact HB.out | apply below_alloc | apply pw_below_drewN | apply below_drew1 | refine below_set ?_ GE154.out | refine below_set ?_ GE155.out | refine below_set ?_ GE156.out) | exact HB.out)) hb)
            clear HO_157002
            clear BK154
            clear BK155
            clear BK156
            clear HB
            have HO_157002 := n0_
            have HO162 := n1_
            have BK154 := n2_
            have BK155 := n3_
            have BK156 := n4_
            have HB := n5_
            clear n0_ n1_ n2_ n3_ n4_ n5_
            (try clear hb)
            (try clear hb2)
            (try clear hk)
            (try clear hi)
            (try clear ho0)
            obtain ⟨Ao20, co20, eo20⟩ := Kd.R_slice HO162.out
            (first | subst eo20 | (injection eo20 with f1_ f2_ f3_; have f4_ := f1_.symm; have f5_ := f3_.symm; clear f1_ f2_ f3_; subst f4_; subst f5_))
            refine hK.out _ _ ⟨(blk_cell BK156.out 0).trans rfl, (blk_cell BK156.out 1).trans rfl, (blk_cell BK156.out 2).trans rfl, (blk_cell BK156.out 3).trans rfl, (blk_cell BK154.out 0).trans rfl, (blk_cell BK154.out 1).trans rfl, (blk_cell BK154.out 2).trans rfl, (blk_cell BK154.out 3).trans rfl, ((HB.out.cell (World.block_lt_of_cell? w _ hw157_0)).trans hw157_0), ((HB.out.cell (World.block_lt_of_cell? w _ hw157_1)).trans hw157_1), ((HB.out.cell (World.block_lt_of_cell? w _ hw157_2)).trans hw157_2), ((HB.out.cell (World.block_lt_of_cell? w _ hw157_3)).trans hw157_3)⟩ (fun hHeld => ?_)
            clear hK K
            refine norm_ (a' := ?_) ?_ ?_
            rotate_left
            · show Act.put _ (some 26) _ = _
              simp only [Act.put, List.setIfInBounds_toArray, List.set_cons_zero, List.set_cons_succ, i64_w, i32_w]
              rfl
            refine one_ (i := 8) (N := some 27) #[true, true, true, true, true, true, true, true, true, false, false, false] rfl rfl (one_of HT_.out (by kernel_rfl)) (by decide) (fun K hK => ?_)
            refine value_ (w1 := ?_) (v := ?_) (by rfl) rfl ?_ ?_
            rotate_left 2
            · go_simp
              constructor
              · rfl
              · rfl
            refine hK.out _ _ ⟨(blk_cell (blk_alloc BK156.out _) 0).trans rfl, (blk_cell (blk_alloc BK156.out _) 1).trans rfl, (blk_cell (blk_alloc BK156.out _) 2).trans rfl, (blk_cell (blk_alloc BK156.out _) 3).trans rfl, (blk_cell (blk_alloc BK154.out _) 0).trans rfl, (blk_cell (blk_alloc BK154.out _) 1).trans rfl, (blk_cell (blk_alloc BK154.out _) 2).trans rfl, (blk_cell (blk_alloc BK154.out _) 3).trans rfl, (World.cell?_alloc_lt _ _ _ (World.block_lt_of_cell? _ _ (((HB.out.cell (World.block_lt_of_cell? w _ hw157_0)).trans hw157_0)))).trans (((HB.out.cell (World.block_lt_of_cell? w _ hw157_0)).trans hw157_0)), (World.cell?_alloc_lt _ _ _ (World.block_lt_of_cell? _ _ (((HB.out.cell (World.block_lt_of_cell? w _ hw157_1)).trans hw157_1)))).trans (((HB.out.cell (World.block_lt_of_cell? w _ hw157_1)).trans hw157_1)), (World.cell?_alloc_lt _ _ _ (World.block_lt_of_cell? _ _ (((HB.out.cell (World.block_lt_of_cell? w _ hw157_2)).trans hw157_2)))).trans (((HB.out.cell (World.block_lt_of_cell? w _ hw157_2)).trans hw157_2)), (World.cell?_alloc_lt _ _ _ (World.block_lt_of_cell? _ _ (((HB.out.cell (World.block_lt_of_cell? w _ hw157_3)).trans hw157_3)))).trans (((HB.out.cell (World.block_lt_of_cell? w _ hw157_3)).trans hw157_3))⟩ (fun hHeld => ?_)
            clear hK K
            refine norm_ (a' := ?_) ?_ ?_
            rotate_left
            · show Act.put _ (some 27) _ = _
              simp only [Act.put, List.setIfInBounds_toArray, List.set_cons_zero, List.set_cons_succ, i64_w, i32_w]
              rfl
            refine one_ (i := 9) (N := some 28) #[true, true, true, true, true, true, true, true, true, true, false, false] rfl rfl (one_of HT_.out (by kernel_rfl)) (by decide) (fun K hK => ?_)
            refine Kd.R_append_step k32 (w0 := w) w.heap.size (by rfl) (.tmp 20) (.tmp 27) 30 32 (.agg #[(.int .i64 0), (.string ⟨#[]⟩), (.slice none 0 0), (.int .i64 0)]) 56 rfl Tryd.underlying30 info32 rfl (by decide) (by omega) u157002 x157002_1 (⟨t158, t159, t160, t163⟩ : S32) [.int .i64 t158, .string t159, .slice Ao20 t160.length co20, .int .i64 t163] (fun k_ => k_ ≠ gb155 ∧ k_ ≠ gb156) (fun k_ => ((fun k_ => k_ ≠ gb155 ∧ k_ ≠ gb156)) k_ ∧ some k_ ≠ (u157002 : Value).ownBlock) rfl rfl ?aP (fun _ hk => hk) ?aF ?aO ?aB ?aS ?aL ?_
            (case aP => exact k32_mkM _ _ _ (⟨t158, t159, t160, t163⟩ : S32) (Kd.R_mono (HO162.out) (fun k_ hk => ⟨⟨hk.1.2, hk.2⟩, hk.1.1.2⟩)))
            (case aB => exact (by repeat (first | (with_reducible first | exact HB.out | apply below_alloc | apply pw_below_drewN | apply below_drew1 | refine below_set ?_ GE154.out | refine below_set ?_ GE155.out | refine below_set ?_ GE156.out) | exact HB.out)))
            (case aF => exact (fun k_ hk => ⟨Kd.freshB (g := gb155) (o := .cells #[.int .i64 0, .string (⟨#[]⟩ : ByteArray), .slice none 0 0, .int .i64 0] 32 (0, 0)) (by (with_reducible repeat (first | refine blk_drewN ?_ _ | refine blk_drew ?_ | refine blk_alloc ?_ _)); exact BK155.out) k_ hk, Kd.freshB (g := gb156) (o := .cells #[.int .i64 a0_0, .string a0_1, u157002, .int .i64 a0_3] 32 (0, 0)) (by (with_reducible repeat (first | refine blk_drewN ?_ _ | refine blk_drew ?_ | refine blk_alloc ?_ _)); exact BK156.out) k_ hk⟩))
            (case aO => exact (by (with_reducible repeat (first | apply Kd.R_alloc | apply Kd.R_drewN | apply Kd.R_drew)); exact Kd.R_mono HO_157002.out (fun _ hk => ⟨hk.1.1, hk.1.2⟩)))
            (case aS => exact (below_size (by repeat (first | (with_reducible first | exact HB.out | apply below_alloc | apply pw_below_drewN | apply below_drew1 | refine below_set ?_ GE154.out | refine below_set ?_ GE155.out | refine below_set ?_ GE156.out) | exact HB.out))))
            (case aL => have := LMc13.out; omega)
            intro v165 w19 ho hb hg hat
            rw [← Ny164.out] at ho
            have n0_ := Aside0.mk (blk_grown (g := gb154) (o := .cells #[.int .i64 a0_0, .string a0_1, .slice (some ad157) l0_2.length c0_2, .int .i64 a0_3] 24 (0, 0)) (by (with_reducible repeat (first | refine blk_drewN ?_ _ | refine blk_drew ?_ | refine blk_alloc ?_ _)); exact BK154.out) hg (Kd.R_ne HO_157002.out BK154.out (by decide)))
            have n1_ := Aside0.mk (blk_grown (g := gb155) (o := .cells #[.int .i64 0, .string (⟨#[]⟩ : ByteArray), .slice none 0 0, .int .i64 0] 32 (0, 0)) (by (with_reducible repeat (first | refine blk_drewN ?_ _ | refine blk_drew ?_ | refine blk_alloc ?_ _)); exact BK155.out) hg (Kd.R_away HO_157002.out (fun _ hk => hk.1.1)))
            have n2_ := Aside0.mk (blk_grown (g := gb156) (o := .cells #[.int .i64 a0_0, .string a0_1, u157002, .int .i64 a0_3] 32 (0, 0)) (by (with_reducible repeat (first | refine blk_drewN ?_ _ | refine blk_drew ?_ | refine blk_alloc ?_ _)); exact BK156.out) hg (Kd.R_away HO_157002.out (fun _ hk => hk.1.2)))
            have n3_ := Aside0.mk (hb)
            have n4_ := Aside0.mk (ho)
            clear BK154
            clear BK155
            clear BK156
            clear HB
            clear HO_157002
            clear HO162
            have BK154 := n0_
            have BK155 := n1_
            have BK156 := n2_
            have HB := n3_
            have HO166 := n4_
            clear n0_ n1_ n2_ n3_ n4_
            clear ho hb hg hat
            obtain ⟨Ao21, co21, eo21⟩ := Kd.R_slice HO166.out
            (first | subst eo21 | (injection eo21 with f1_ f2_ f3_; have f4_ := f1_.symm; have f5_ := f3_.symm; clear f1_ f2_ f3_; subst f4_; subst f5_))
            refine hK.out _ _ ⟨(blk_cell BK156.out 0).trans rfl, (blk_cell BK156.out 1).trans rfl, (blk_cell BK156.out 2).trans rfl, (blk_cell BK156.out 3).trans rfl, (blk_cell BK154.out 0).trans rfl, (blk_cell BK154.out 1).trans rfl, (blk_cell BK154.out 2).trans rfl, (blk_cell BK154.out 3).trans rfl, ((HB.out.cell (World.block_lt_of_cell? w _ hw157_0)).trans hw157_0), ((HB.out.cell (World.block_lt_of_cell? w _ hw157_1)).trans hw157_1), ((HB.out.cell (World.block_lt_of_cell? w _ hw157_2)).trans hw157_2), ((HB.out.cell (World.block_lt_of_cell? w _ hw157_3)).trans hw157_3)⟩ (fun hHeld => ?_)
            clear hK K
            refine norm_ (a' := ?_) ?_ ?_
            rotate_left
            · show Act.put _ (some 28) _ = _
              simp only [Act.put, List.setIfInBounds_toArray, List.set_cons_zero, List.set_cons_succ, i64_w, i32_w]
              rfl
            refine pure_ (i := 10) (N := some 29) (v := ?_) (a' := ?_) #[true, true, true, true, true, true, true, true, true, true, true, false] rfl rfl (any_of HT_.out (by kernel_rfl)) (fun _ _ _ h => h) (Or.inl ⟨by rfl, ?_⟩) ?_ ?_
            rotate_left
            · intro w'
              go_simp
              with_reducible rfl
            rotate_left
            · simp only [Act.put, List.setIfInBounds_toArray, List.set_cons_zero, List.set_cons_succ, i64_w, i32_w]
              rfl
            refine last_ (i := 11) (N := none) #[true, true, true, true, true, true, true, true, true, true, true, true] rfl rfl (one_of HT_.out (by kernel_rfl)) (by decide) (fun K hK => ?_)
            have hs22 : w19.cell? ⟨gb156, 2, none⟩ = some (u157002) := (blk_cell BK156.out 2).trans rfl
            have hfs22 := blk_frozen BK156.out 2
            have hns22_0 := NB154_156.out
            have hns22_1 := NB155_156.out
            have hms22_0 := NB156_154.out
            have hms22_1 := NB156_155.out
            refine skip_ (w1 := ?_) (by rfl) rfl ?_ ?_
            rotate_left
            · go_simp
              rfl
            refine hK.out _ _ ?_
            clear hK K
            refine done_ (done_of HT_.out (by kernel_rfl)) ?_
            try go_wp2
            go_roundg k1
            case measure => have := HK1.out; omega
            case rel => exact ⟨(wrap64 (x4_1 + 1)), (y164), (.slice Ao21 y164.length co21), (by first | rfl | (simp; done) | (simp [*]; done)), H', ⟨by have := HK1.out; omega⟩, ⟨by (with_reducible repeat (first | apply Kd.R_alloc | apply Kd.R_drewN | apply Kd.R_drew)); exact Kd.R_mono (Kd.R_far (p := ⟨gb156, 2, none⟩) (Kd.R_mono HO166.out (fun k_ hk => (⟨hk, hk.2⟩ : _ ∧ k_ ≠ gb156))) (fun _ hk => hk.2) (.slice Ao21 y164.length co21)) (fun _ hk => ⟨hk.1.1, hk.1.2⟩)⟩, ⟨by (with_reducible repeat (first | refine blk_drewN ?_ _ | refine blk_drew ?_ | refine blk_alloc ?_ _)); refine blk_far ?_ NB154_156.out _; (with_reducible repeat (first | refine blk_drewN ?_ _ | refine blk_drew ?_ | refine blk_alloc ?_ _)); exact BK154.out⟩, ⟨by (with_reducible repeat (first | refine blk_drewN ?_ _ | refine blk_drew ?_ | refine blk_alloc ?_ _)); refine blk_far ?_ NB155_156.out _; (with_reducible repeat (first | refine blk_drewN ?_ _ | refine blk_drew ?_ | refine blk_alloc ?_ _)); exact BK155.out⟩, ⟨by (with_reducible repeat (first | refine blk_drewN ?_ _ | refine blk_drew ?_ | refine blk_alloc ?_ _)); refine blk_put (cs := #[.int .i64 a0_0, .string a0_1, u157002, .int .i64 a0_3]) ?_ 2 _ rfl; (with_reducible repeat (first | refine blk_drewN ?_ _ | refine blk_drew ?_ | refine blk_alloc ?_ _)); exact BK156.out⟩, ⟨by repeat (first | (with_reducible first | exact HB.out | apply below_alloc | apply pw_below_drewN | apply below_drew1 | refine below_set ?_ GE154.out | refine below_set ?_ GE155.out | refine below_set ?_ GE156.out) | exact HB.out)⟩⟩
          · rw [if_neg c13] at H
            exact absurd H (by simp)
        · rw [if_neg c11] at H
          exact absurd H (by simp)
      · rw [if_neg c10] at H
        have c10b0 : decide (x4_1 < (l0_2.length : Int)) = false := decide_eq_false c10
        clear c10
        simp only [Option.some.injEq, Prod.mk.injEq] at H
        obtain ⟨rfl, rfl, rfl, rfl⟩ := H
        have hnb23 := NB154_155.out
        have hnc23 := NB155_154.out
        have hnb24 := NB154_156.out
        have hnc24 := NB156_154.out
        have hcz25_0 : wr.cell? ⟨gb154, 0, none⟩ = some (.int .i64 a0_0) := (blk_cell BK154.out 0).trans rfl
        have hcz25_1 : wr.cell? ⟨gb154, 1, none⟩ = some (.string a0_1) := (blk_cell BK154.out 1).trans rfl
        have hcz25_2 : wr.cell? ⟨gb154, 2, none⟩ = some (.slice A0_2 l0_2.length c0_2) := (blk_cell BK154.out 2).trans rfl
        have hcz25_3 : wr.cell? ⟨gb154, 3, none⟩ = some (.int .i64 a0_3) := (blk_cell BK154.out 3).trans rfl
        have hfz25_0 := blk_frozen BK154.out 0
        have hfz25_1 := blk_frozen BK154.out 1
        have hfz25_2 := blk_frozen BK154.out 2
        have hfz25_3 := blk_frozen BK154.out 3
        have hnb26 := NB156_155.out
        have hnc26 := NB155_156.out
        have hcz27_0 : wr.cell? ⟨gb156, 0, none⟩ = some (.int .i64 a0_0) := (blk_cell BK156.out 0).trans rfl
        have hcz27_1 : wr.cell? ⟨gb156, 1, none⟩ = some (.string a0_1) := (blk_cell BK156.out 1).trans rfl
        have hcz27_2 : wr.cell? ⟨gb156, 2, none⟩ = some (u157002) := (blk_cell BK156.out 2).trans rfl
        have hcz27_3 : wr.cell? ⟨gb156, 3, none⟩ = some (.int .i64 a0_3) := (blk_cell BK156.out 3).trans rfl
        have hfz27_0 := blk_frozen BK156.out 0
        have hfz27_1 := blk_frozen BK156.out 1
        have hfz27_2 := blk_frozen BK156.out 2
        have hfz27_3 := blk_frozen BK156.out 3
        have hcz28_0 : wr.cell? ⟨gb155, 0, none⟩ = some (.int .i64 0) := (blk_cell BK155.out 0).trans rfl
        have hcz28_1 : wr.cell? ⟨gb155, 1, none⟩ = some (.string (⟨#[]⟩ : ByteArray)) := (blk_cell BK155.out 1).trans rfl
        have hcz28_2 : wr.cell? ⟨gb155, 2, none⟩ = some (.slice none 0 0) := (blk_cell BK155.out 2).trans rfl
        have hcz28_3 : wr.cell? ⟨gb155, 3, none⟩ = some (.int .i64 0) := (blk_cell BK155.out 3).trans rfl
        have hfz28_0 := blk_frozen BK155.out 0
        have hfz28_1 := blk_frozen BK155.out 1
        have hfz28_2 := blk_frozen BK155.out 2
        have hfz28_3 := blk_frozen BK155.out 3
        obtain ⟨Ao29, co29, eo29⟩ := Kd.R_slice HO_157002.out
        subst eo29
        go_wp2
        refine bodyPost_ret (results_cell_row rfl _ _ gb155 32 #[.int .i64 a0_0, .string a0_1, .slice Ao29 x157002_1.length co29, .int .i64 a0_3] (0, 0) _ rfl (by (with_reducible repeat (first | refine blk_drewN ?_ _ | refine blk_drew ?_ | refine blk_alloc ?_ _)); refine blk_put (cs := #[.int .i64 a0_0, .string a0_1, .slice Ao29 x157002_1.length co29, .int .i64 0]) ?_ 3 _ rfl; (with_reducible repeat (first | refine blk_drewN ?_ _ | refine blk_drew ?_ | refine blk_alloc ?_ _)); refine blk_put (cs := #[.int .i64 a0_0, .string a0_1, .slice none 0 0, .int .i64 0]) ?_ 2 _ rfl; (with_reducible repeat (first | refine blk_drewN ?_ _ | refine blk_drew ?_ | refine blk_alloc ?_ _)); refine blk_put (cs := #[.int .i64 a0_0, .string (⟨#[]⟩ : ByteArray), .slice none 0 0, .int .i64 0]) ?_ 1 _ rfl; (with_reducible repeat (first | refine blk_drewN ?_ _ | refine blk_drew ?_ | refine blk_alloc ?_ _)); refine blk_put (cs := #[.int .i64 0, .string (⟨#[]⟩ : ByteArray), .slice none 0 0, .int .i64 0]) ?_ 0 _ rfl; (with_reducible repeat (first | refine blk_drewN ?_ _ | refine blk_drew ?_ | refine blk_alloc ?_ _)); exact BK155.out) Tryd.underlying32 rfl (by kernel_rfl)) rfl ?_
        exact ⟨_, by first | rfl | (simp [errW_none, errW_some] <;> rfl) | (simp [*, errW_none, errW_some] <;> rfl), by (with_reducible repeat (first | apply Kd.R_alloc | apply Kd.R_drewN | apply Kd.R_drew)); exact Kd.R_mono (Kd.R_far (p := ⟨gb155, 3, none⟩) (Kd.R_far (p := ⟨gb155, 2, none⟩) (Kd.R_far (p := ⟨gb155, 1, none⟩) (Kd.R_far (p := ⟨gb155, 0, none⟩) (Kd.R_mono HO_157002.out (fun k_ hk => (⟨hk, hk.1⟩ : _ ∧ k_ ≠ gb155))) (fun _ hk => hk.2) (.int .i64 a0_0)) (fun _ hk => hk.2) (.string a0_1)) (fun _ hk => hk.2) (.slice Ao29 x157002_1.length co29)) (fun _ hk => hk.2) (.int .i64 a0_3)) (fun _ hk => trivial), by repeat (first | (with_reducible first | exact HB.out | apply below_alloc | apply pw_below_drewN | apply below_drew1 | refine below_set ?_ GE154.out | refine below_set ?_ GE155.out | refine below_set ?_ GE156.out) | exact HB.out)⟩
end Go.Proofs.YtnjoncbgekonbaaDoor.PExpr
end
