/- What the claim of CardKindFinds needs, out of the session's texts, in their order. -/
import Derived.Test.YtfgogfdbjbnlbaaDoorKuI
import Derived.Laws.RangeAny
section
namespace Go.Proofs.YtfgogfdbjbnlbaaDoor.Utf
open Go.RowKit Go.Proofs.YtfgogfdbjbnlbaaDoorW.PrintWords
set_option linter.unusedVariables false
set_option linter.unusedSimpArgs false
theorem get_bt (s : ByteArray) (i : Nat) (h : i < s.size) : ((s.get! i).toNat : Int) = bt s (i : Int) := by
  unfold bt
  have h2 : ((i : Nat) : Int).toNat < s.size := by simpa using h
  rw [dif_pos h2]
  have e : s.get! i = s[i]'h := by
    simp [ByteArray.get!, getElem!_pos, h]
    rfl
  rw [e]
  simp
def Two (s : ByteArray) (p : Nat) : Prop := p + 1 < s.size ∧ 194 ≤ bt s p ∧ bt s p ≤ 223 ∧ 128 ≤ bt s (p + 1 : Nat) ∧ bt s (p + 1 : Nat) ≤ 191
def Three (s : ByteArray) (p : Nat) : Prop := p + 2 < s.size ∧ 224 ≤ bt s p ∧ bt s p ≤ 239 ∧ 128 ≤ bt s (p + 1 : Nat) ∧ bt s (p + 1 : Nat) ≤ 191 ∧ 128 ≤ bt s (p + 2 : Nat) ∧ bt s (p + 2 : Nat) ≤ 191 ∧ (bt s p = 224 → 160 ≤ bt s (p + 1 : Nat)) ∧ (bt s p = 237 → bt s (p + 1 : Nat) ≤ 159)
def Four (s : ByteArray) (p : Nat) : Prop := p + 3 < s.size ∧ 240 ≤ bt s p ∧ bt s p ≤ 244 ∧ 128 ≤ bt s (p + 1 : Nat) ∧ bt s (p + 1 : Nat) ≤ 191 ∧ 128 ≤ bt s (p + 2 : Nat) ∧ bt s (p + 2 : Nat) ≤ 191 ∧ 128 ≤ bt s (p + 3 : Nat) ∧ bt s (p + 3 : Nat) ≤ 191 ∧ (bt s p = 240 → 144 ≤ bt s (p + 1 : Nat)) ∧ (bt s p = 244 → bt s (p + 1 : Nat) ≤ 143)
def Bad (s : ByteArray) (p : Nat) : Prop := 128 ≤ bt s p ∧ ¬ Two s p ∧ ¬ Three s p ∧ ¬ Four s p
def Tells (s : ByteArray) (p : Nat) : Prop :=
  (bt s p < 128 ∧ ((Utf8.decode s p).1 : Int) = bt s p ∧ (Utf8.decode s p).2 = 1) ∨
  (Two s p ∧ ((Utf8.decode s p).1 : Int) = (bt s p - 192) * 64 + (bt s (p + 1 : Nat) - 128) ∧ (Utf8.decode s p).2 = 2) ∨
  (Three s p ∧ ((Utf8.decode s p).1 : Int) = (bt s p - 224) * 4096 + (bt s (p + 1 : Nat) - 128) * 64 + (bt s (p + 2 : Nat) - 128) ∧ (Utf8.decode s p).2 = 3) ∨
  (Four s p ∧ ((Utf8.decode s p).1 : Int) = (bt s p - 240) * 262144 + (bt s (p + 1 : Nat) - 128) * 4096 + (bt s (p + 2 : Nat) - 128) * 64 + (bt s (p + 3 : Nat) - 128) ∧ (Utf8.decode s p).2 = 4) ∨
  (Bad s p ∧ (Utf8.decode s p).1 = 65533 ∧ (Utf8.decode s p).2 = 1)
theorem tells (s : ByteArray) (p : Nat) (h : p < s.size) : Tells s p := by
  have g0 := get_bt s p h
  have r0 := bt_range s (p : Int)
  have g1 := fun h : p + 1 < s.size => get_bt s (p + 1) h
  have g2 := fun h : p + 2 < s.size => get_bt s (p + 2) h
  have g3 := fun h : p + 3 < s.size => get_bt s (p + 3) h
  have r1 := bt_range s ((p + 1 : Nat) : Int)
  have r2 := bt_range s ((p + 2 : Nat) : Int)
  have r3 := bt_range s ((p + 3 : Nat) : Int)
  have hd : ∀ n0 n1 n2 n3 : Nat, (s.get! p).toNat = n0 → (s.get! (p + 1)).toNat = n1 → (s.get! (p + 2)).toNat = n2 → (s.get! (p + 3)).toNat = n3 → Utf8.decode s p =
      (if n0 < 128 then (n0, 1)
      else if n0 / 32 = 6 ∧ p + 1 < s.size ∧ n1 / 64 = 2 then (if n0 % 32 * 64 + n1 % 64 ≥ 128 then (n0 % 32 * 64 + n1 % 64, 2) else (65533, 1))
      else if n0 / 16 = 14 ∧ p + 1 < s.size ∧ n1 / 64 = 2 ∧ p + 2 < s.size ∧ n2 / 64 = 2 then (if n0 % 16 * 4096 + n1 % 64 * 64 + n2 % 64 ≥ 2048 ∧ (n0 % 16 * 4096 + n1 % 64 * 64 + n2 % 64 < 55296 ∨ 57344 ≤ n0 % 16 * 4096 + n1 % 64 * 64 + n2 % 64) then (n0 % 16 * 4096 + n1 % 64 * 64 + n2 % 64, 3) else (65533, 1))
      else if n0 / 8 = 30 ∧ p + 1 < s.size ∧ n1 / 64 = 2 ∧ p + 2 < s.size ∧ n2 / 64 = 2 ∧ p + 3 < s.size ∧ n3 / 64 = 2 then (if n0 % 8 * 262144 + n1 % 64 * 4096 + n2 % 64 * 64 + n3 % 64 ≥ 65536 ∧ n0 % 8 * 262144 + n1 % 64 * 4096 + n2 % 64 * 64 + n3 % 64 ≤ 1114111 then (n0 % 8 * 262144 + n1 % 64 * 4096 + n2 % 64 * 64 + n3 % 64, 4) else (65533, 1))
      else (65533, 1)) := by
    rintro n0 n1 n2 n3 rfl rfl rfl rfl
    unfold Utf8.decode
    unfold Utf8.valid Utf8.runeError
    dsimp only
    have ite_iff : ∀ {a b : Prop} [Decidable a] [Decidable b] {x y x' y' : Nat × Nat}, (a ↔ b) → x = x' → y = y' → (if a then x else y) = (if b then x' else y') := by
      intro a b _ _ x y x' y' hab hx hy
      subst hx hy
      by_cases h : a
      · rw [if_pos h, if_pos (hab.mp h)]
      · rw [if_neg h, if_neg (fun hb => h (hab.mpr hb))]
    have hz : (s.get! (p + 0)).toNat = (s.get! p).toNat := rfl
    refine ite_iff Iff.rfl rfl (ite_iff ?_ rfl (ite_iff ?_ (ite_iff ?_ rfl rfl) (ite_iff ?_ (ite_iff ?_ rfl rfl) rfl)))
    · rw [Bool.and_eq_true, Bool.and_eq_true, beq_iff_eq, beq_iff_eq, decide_eq_true_eq]; exact Iff.rfl
    · simp only [Bool.and_eq_true, beq_iff_eq, decide_eq_true_eq, and_assoc]; exact Iff.rfl
    · simp only [Bool.and_eq_true, Bool.or_eq_true, decide_eq_true_eq]
      omega
    · simp only [Bool.and_eq_true, beq_iff_eq, decide_eq_true_eq, and_assoc]; exact Iff.rfl
    · simp only [Bool.and_eq_true, Bool.or_eq_true, decide_eq_true_eq]
      omega
  unfold Tells Bad Two Three Four
  rw [hd _ _ _ _ rfl rfl rfl rfl]
  clear hd
  generalize (s.get! p).toNat = n0 at g0 ⊢
  generalize (s.get! (p + 1)).toNat = n1 at g1 ⊢
  generalize (s.get! (p + 2)).toNat = n2 at g2 ⊢
  generalize (s.get! (p + 3)).toNat = n3 at g3 ⊢
  generalize bt s (p : Int) = b0 at *
  generalize bt s ((p + 1 : Nat) : Int) = b1 at *
  generalize bt s ((p + 2 : Nat) : Int) = b2 at *
  generalize bt s ((p + 3 : Nat) : Int) = b3 at *
  subst g0
  by_cases c0 : n0 < 128
  · rw [if_pos c0]
    exact .inl ⟨by omega, rfl, rfl⟩
  rw [if_neg c0]
  by_cases c1 : n0 / 32 = 6 ∧ p + 1 < s.size ∧ n1 / 64 = 2
  · rw [if_pos c1]
    have e1 := g1 c1.2.1
    subst e1
    by_cases c2 : n0 % 32 * 64 + n1 % 64 ≥ 128
    · rw [if_pos c2]
      refine .inr (.inl ⟨⟨c1.2.1, ?_, ?_, ?_, ?_⟩, ?_, rfl⟩) <;> omega
    · rw [if_neg c2]
      refine .inr (.inr (.inr (.inr ⟨⟨?_, ?_, ?_, ?_⟩, rfl, rfl⟩))) <;> omega
  rw [if_neg c1]
  by_cases c2 : n0 / 16 = 14 ∧ p + 1 < s.size ∧ n1 / 64 = 2 ∧ p + 2 < s.size ∧ n2 / 64 = 2
  · rw [if_pos c2]
    have e1 := g1 c2.2.1
    have e2 := g2 c2.2.2.2.1
    subst e1 e2
    split
    · rename_i c3
      refine .inr (.inr (.inl ⟨⟨c2.2.2.2.1, ?_, ?_, ?_, ?_, ?_, ?_, ?_, ?_⟩, ?_, rfl⟩)) <;> omega
    · rename_i c3
      refine .inr (.inr (.inr (.inr ⟨⟨?_, ?_, ?_, ?_⟩, rfl, rfl⟩))) <;> omega
  rw [if_neg c2]
  by_cases c3 : n0 / 8 = 30 ∧ p + 1 < s.size ∧ n1 / 64 = 2 ∧ p + 2 < s.size ∧ n2 / 64 = 2 ∧ p + 3 < s.size ∧ n3 / 64 = 2
  · rw [if_pos c3]
    have e1 := g1 c3.2.1
    have e2 := g2 c3.2.2.2.1
    have e3 := g3 c3.2.2.2.2.2.1
    subst e1 e2 e3
    split
    · rename_i c4
      refine .inr (.inr (.inr (.inl ⟨⟨c3.2.2.2.2.2.1, ?_, ?_, ?_, ?_, ?_, ?_, ?_, ?_, ?_, ?_⟩, ?_, rfl⟩))) <;> omega
    · rename_i c4
      refine .inr (.inr (.inr (.inr ⟨⟨?_, ?_, ?_, ?_⟩, rfl, rfl⟩))) <;> omega
  rw [if_neg c3]
  refine .inr (.inr (.inr (.inr ⟨⟨by omega, ?_, ?_, ?_⟩, rfl, rfl⟩)))
  · rintro ⟨h1, h2⟩
    have e1 := g1 h1
    omega
  · rintro ⟨h1, h2⟩
    have e1 := g1 (by omega)
    have e2 := g2 h1
    omega
  · rintro ⟨h1, h2⟩
    have e1 := g1 (by omega)
    have e2 := g2 (by omega)
    have e3 := g3 h1
    omega
theorem valid_of (c : Nat) (h : c < 55296 ∨ (57344 ≤ c ∧ c ≤ 1114111)) : Utf8.valid (c : Int) = true := by
  unfold Utf8.valid
  simp only [Bool.or_eq_true, Bool.and_eq_true, decide_eq_true_eq]
  omega
theorem enc1 (c : Nat) (h : c < 128) : Utf8.encode (c : Int) = ⟨#[UInt8.ofNat c]⟩ := by
  unfold Utf8.encode
  rw [if_pos (valid_of c (by omega)), Int.toNat_natCast]
  exact if_pos h
theorem enc2 (c : Nat) (h : 128 ≤ c) (h2 : c < 2048) : Utf8.encode (c : Int) = ⟨#[UInt8.ofNat (192 + c / 64), UInt8.ofNat (128 + c % 64)]⟩ := by
  unfold Utf8.encode
  rw [if_pos (valid_of c (by omega)), Int.toNat_natCast]
  exact (if_neg (by omega)).trans (if_pos h2)
theorem enc3 (c : Nat) (h : 2048 ≤ c) (h2 : c < 65536) (hv : c < 55296 ∨ 57344 ≤ c) : Utf8.encode (c : Int) = ⟨#[UInt8.ofNat (224 + c / 4096), UInt8.ofNat (128 + c / 64 % 64), UInt8.ofNat (128 + c % 64)]⟩ := by
  unfold Utf8.encode
  rw [if_pos (valid_of c (by omega)), Int.toNat_natCast]
  exact (if_neg (by omega)).trans ((if_neg (by omega)).trans (if_pos h2))
theorem enc4 (c : Nat) (h : 65536 ≤ c) (h2 : c ≤ 1114111) : Utf8.encode (c : Int) = ⟨#[UInt8.ofNat (240 + c / 262144), UInt8.ofNat (128 + c / 4096 % 64), UInt8.ofNat (128 + c / 64 % 64), UInt8.ofNat (128 + c % 64)]⟩ := by
  unfold Utf8.encode
  rw [if_pos (valid_of c (by omega)), Int.toNat_natCast]
  exact (if_neg (by omega)).trans ((if_neg (by omega)).trans (if_neg (by omega)))
theorem byte_eq {n : Nat} {b : UInt8} (h : n = b.toNat) : UInt8.ofNat n = b := by
  subst h
  simp
theorem bt_get (s : ByteArray) (i : Nat) (h : i < s.size) : bt s (i : Int) = ((s[i]'h).toNat : Int) := by
  unfold bt
  rw [dif_pos (by simpa using h)]
  simp
theorem extract_of {s : ByteArray} {p : Nat} {l : List UInt8} (h : p + l.length ≤ s.size) (hl : ∀ j (hj : j < l.length), l[j] = s[p + j]'(by omega)) : s.extract p (p + l.length) = ⟨l.toArray⟩ := by
  apply ByteArray.ext
  apply Array.ext
  · simp [ByteArray.data_extract]
    have : s.data.size = s.size := rfl
    omega
  · intro i h1 h2
    have h3 : i < l.length := by simpa using h2
    have := hl i h3
    simp [ByteArray.data_extract]
    rw [this]
    rfl
theorem ext_list (s : ByteArray) (a e : Nat) : (s.extract a e).data.toList = (s.data.toList.drop a).take (e - a) := by
  rw [ByteArray.data_extract, Array.toList_extract]
theorem len_list (s : ByteArray) : s.data.toList.length = s.size := by rw [Array.length_toList]; rfl
theorem str_eq (a b : ByteArray) : (a.toList == b.toList) = decide (a = b) := by
  rw [ByteArray.toList_eq, ByteArray.toList_eq]
  by_cases h : a = b
  · subst h; simp
  · rw [decide_eq_false h]
    rw [beq_eq_false_iff_ne]
    intro h2
    exact h (ByteArray.ext (Array.toList_inj.mp h2))
theorem str_eq_iff (a b : ByteArray) : (a.toList == b.toList) = true ↔ a = b := by rw [str_eq]; simp
theorem drop_cons (s : ByteArray) (p : Nat) (h : p < s.size) : s.data.toList.drop p = s[p] :: s.data.toList.drop (p + 1) := by
  rw [List.drop_eq_getElem_cons (by rw [len_list]; exact h)]
  rfl
theorem encode_decode (s : ByteArray) (p : Nat) (h : p < s.size) (hb : ¬ Bad s p) : Utf8.encode (Utf8.decode s p).1 = s.extract p (p + (Utf8.decode s p).2) := by
  have b0 := bt_get s p h
  rcases tells s p h with ⟨h1, h2, h3⟩ | ⟨h1, h2, h3⟩ | ⟨h1, h2, h3⟩ | ⟨h1, h2, h3⟩ | ⟨h1, h2, h3⟩
  · rw [h3, enc1 _ (by omega)]
    refine (extract_of (l := [_]) h ?_).symm
    intro j hj
    obtain rfl : j = 0 := by simp at hj; omega
    exact byte_eq (by simp only [Nat.add_zero]; omega)
  · obtain ⟨hs, h4, h5, h6, h7⟩ := h1
    have b1 := bt_get s (p + 1) hs
    rw [h3, enc2 _ (by omega) (by omega)]
    refine (extract_of (l := [_, _]) hs ?_).symm
    intro j hj
    rcases j with _ | _ | j
    · exact byte_eq (by simp only [Nat.add_zero]; omega)
    · exact byte_eq (by simp only [Nat.zero_add]; omega)
    · simp only [List.length_cons, List.length_nil] at hj; omega
  · obtain ⟨hs, h4, h5, h6, h7, h8, h9, h10, h11⟩ := h1
    have b1 := bt_get s (p + 1) (by omega)
    have b2 := bt_get s (p + 2) hs
    rw [h3, enc3 _ (by omega) (by omega) (by omega)]
    refine (extract_of (l := [_, _, _]) hs ?_).symm
    intro j hj
    rcases j with _ | _ | _ | j
    · exact byte_eq (by simp only [Nat.add_zero]; omega)
    · exact byte_eq (by simp only [Nat.zero_add]; omega)
    · exact byte_eq (by simp only [Nat.zero_add, Nat.reduceAdd]; omega)
    · simp only [List.length_cons, List.length_nil] at hj; omega
  · obtain ⟨hs, h4, h5, h6, h7, h8, h9, h10, h11, h12, h13⟩ := h1
    have b1 := bt_get s (p + 1) (by omega)
    have b2 := bt_get s (p + 2) (by omega)
    have b3 := bt_get s (p + 3) hs
    rw [h3, enc4 _ (by omega) (by omega)]
    refine (extract_of (l := [_, _, _, _]) hs ?_).symm
    intro j hj
    rcases j with _ | _ | _ | _ | j
    · exact byte_eq (by simp only [Nat.add_zero]; omega)
    · exact byte_eq (by simp only [Nat.zero_add]; omega)
    · exact byte_eq (by simp only [Nat.zero_add, Nat.reduceAdd]; omega)
    · exact byte_eq (by simp only [Nat.zero_add, Nat.reduceAdd]; omega)
    · simp only [List.length_cons, List.length_nil] at hj; omega
  · exact absurd h1 hb
end Go.Proofs.YtfgogfdbjbnlbaaDoor.Utf
end
section
namespace Go.Proofs.YtfgogfdbjbnlbaaDoor.PExpr
open Go.RowKit Go.Proofs.YtfgogfdbjbnlbaaDoor.Utf Go.Proofs.YtfgogfdbjbnlbaaDoorW.PrintWords Go.Proofs.YtfgogfdbjbnlbaaDoorW.PrintLast Go.Proofs.YtfgogfdbjbnlbaaDoorW.PrintMore
set_option linter.unusedVariables false
set_option linter.unusedSimpArgs false
theorem whole_iff (s : ByteArray) (p : Nat) (h : p < s.size) : wholeAt s p = true ↔ (p + 2 < s.size ∧ bt s p = 239 ∧ bt s (p + 1 : Nat) = 191 ∧ bt s (p + 2 : Nat) = 189) := by
  unfold wholeAt
  have hsz : (s.extract p s.size).size = s.size - p := by rw [← len_list, ext_list, List.length_take, List.length_drop, len_list]; omega
  by_cases h3 : p + 2 < s.size
  · rw [if_pos (by omega), str_eq_iff]
    have b0 := bt_get s p h
    have b1 := bt_get s (p + 1) (by omega)
    have b2 := bt_get s (p + 2) h3
    have hl : ((s.extract p s.size).extract 0 3).data.toList = [s[p], s[p + 1], s[p + 2]] := by
      rw [ext_list, ext_list, drop_cons s p h, drop_cons s (p + 1) (by omega), drop_cons s (p + 2) h3]
      obtain ⟨n, hn⟩ : ∃ n, s.size - p = n + 3 := ⟨s.size - p - 3, by omega⟩
      rw [hn]
      rfl
    constructor
    · intro he
      rw [he] at hl
      simp only [List.cons.injEq] at hl
      obtain ⟨h4, h5, h6, _⟩ := hl
      refine ⟨h3, ?_, ?_, ?_⟩
      · rw [b0, ← h4]; rfl
      · rw [b1, ← h5]; rfl
      · rw [b2, ← h6]; rfl
    · rintro ⟨_, h4, h5, h6⟩
      apply ByteArray.ext
      apply Array.toList_inj.mp
      rw [hl]
      rw [b0] at h4; rw [b1] at h5; rw [b2] at h6
      have e0 : s[p] = 239 := UInt8.toNat_inj.mp (by have : UInt8.toNat 239 = 239 := rfl; omega)
      have e1 : s[p + 1] = 191 := UInt8.toNat_inj.mp (by have : UInt8.toNat 191 = 191 := rfl; omega)
      have e2 : s[p + 2] = 189 := UInt8.toNat_inj.mp (by have : UInt8.toNat 189 = 189 := rfl; omega)
      rw [e0, e1, e2]
  · rw [if_neg (by omega)]
    constructor
    · intro hh; cases hh
    · rintro ⟨hh, _⟩; exact absurd hh h3
theorem bad_iff (s : ByteArray) (p : Nat) (h : p < s.size) : (((Utf8.decode s p).1 : Int) = 65533 ∧ wholeAt s p = false) ↔ Bad s p := by
  have hw := whole_iff s p h
  constructor
  · rintro ⟨h1, h2⟩
    rw [h2] at hw
    have hn : ¬ (p + 2 < s.size ∧ bt s p = 239 ∧ bt s (p + 1 : Nat) = 191 ∧ bt s (p + 2 : Nat) = 189) := fun hh => by cases hw.mpr hh
    rcases tells s p h with ⟨h3, h4, h5⟩ | ⟨h3, h4, h5⟩ | ⟨h3, h4, h5⟩ | ⟨h3, h4, h5⟩ | ⟨h3, h4, h5⟩
    · omega
    · obtain ⟨hs, h6, h7, h8, h9⟩ := h3; omega
    · obtain ⟨hs, h6, h7, h8, h9, h10, h11, h12, h13⟩ := h3
      exact absurd ⟨hs, by omega, by omega, by omega⟩ hn
    · obtain ⟨hs, h6, h7, h8, h9, h10, h11, h12, h13, h14, h15⟩ := h3; omega
    · exact h3
  · intro hb
    rcases tells s p h with ⟨h3, h4, h5⟩ | ⟨h3, h4, h5⟩ | ⟨h3, h4, h5⟩ | ⟨h3, h4, h5⟩ | ⟨h3, h4, h5⟩
    · have := hb.1; omega
    · exact absurd h3 hb.2.1
    · exact absurd h3 hb.2.2.1
    · exact absurd h3 hb.2.2.2
    · refine ⟨by omega, ?_⟩
      cases hv : wholeAt s p with
      | false => rfl
      | true =>
        have := hw.mp hv
        exact absurd ⟨this.1, by omega, by omega, by omega, by omega, by omega, by omega, by omega, by omega⟩ hb.2.2.1
theorem lastP_mem {l : List Pt} (h : l.length ≠ 0) : lastP l ∈ l := by
  have e : (((l.length : Int) - 1).toNat) = l.length - 1 := by omega
  unfold lastP rd_T109
  rw [e]
  have hg : l[l.length - 1]? = some (l[l.length - 1]'(by omega)) := List.getElem?_eq_getElem (by omega)
  simp only [List.getD, hg, Option.getD_some]
  exact List.getElem_mem _
theorem enc_width (s : ByteArray) (p : Nat) (h : p < s.size) (hb : ¬ Bad s p) : (Utf8.encode (Utf8.decode s p).1).size = (Utf8.decode s p).2 := by
  have he := decode_end s p h
  rw [encode_decode s p h hb, ← len_list, ext_list, List.length_take, List.length_drop, len_list]
  omega
set_option maxRecDepth 10000 in
theorem loop_in (s : ByteArray) : ∀ (d : Nat) (l : List Pt) (last : Int) (pos : Nat) (R : List Pt) (x : Int), spLoop s d l last pos = some (R, x, 0) → (∀ q ∈ l, 0 ≤ q.f2 ∧ q.f2 + q.f1.size ≤ (pos : Int)) → l.length ≤ pos → pos ≤ s.size → (∀ q ∈ R, PartIn s q) ∧ R.length ≤ s.size
  | 0, l, last, pos, R, x, h, _, _, _ => by cases h
  | d + 1, l, last, pos, R, x, h, hl, hn, hp => by
    unfold spLoop at h
    by_cases hlt : pos < s.size
    · rw [if_pos hlt] at h
      have h1 := decode_width s pos hlt
      have h2 := decode_end s pos hlt
      have hlen : l.length ≤ pos + (Utf8.decode s pos).2 := by omega
      have hl2 : ∀ q ∈ l, 0 ≤ q.f2 ∧ q.f2 + q.f1.size ≤ ((pos + (Utf8.decode s pos).2 : Nat) : Int) := fun q hq => by have := hl q hq; omega
      split at h
      · injection h with h
        injection h with _ h
        injection h with _ h
        exact absurd h (by decide)
      split at h
      · injection h with h
        injection h with _ h
        injection h with _ h
        exact absurd h (by decide)
      rename_i hb
      have hw := enc_width s pos hlt (fun q => hb ((bad_iff s pos hlt).mpr q))
      split at h
      · exact loop_in s d l 0 _ R x h hl2 hlen h2
      split at h
      · split at h
        · cases h
        rename_i hl0
        split at h
        · refine loop_in s d _ _ _ R x h (fun q hq => ?_) (by rw [List.length_set]; exact hlen) h2
          rcases List.mem_or_eq_of_mem_set hq with hq | hq
          · exact hl2 q hq
          · subst hq
            have hla := hl _ (lastP_mem hl0)
            refine ⟨hla.1, ?_⟩
            dsimp only
            rw [ByteArray.size_append, hw]
            omega
        · cases h
      · refine loop_in s d _ _ _ R x h (fun q hq => ?_) (by rw [List.length_append]; simp; omega) h2
        rcases List.mem_append.1 hq with hq | hq
        · exact hl2 q hq
        · obtain rfl := List.mem_singleton.1 hq
          refine ⟨by show (0 : Int) ≤ (pos : Int); omega, ?_⟩
          dsimp only
          rw [hw]
          omega
    · rw [if_neg hlt] at h
      injection h with h
      injection h with h _
      subst h
      refine ⟨fun q hq => ?_, by omega⟩
      have := hl q hq
      exact ⟨this.1, by omega⟩
theorem split_in {s : ByteArray} {l : List Pt} {x : Int} (h : word_Split.f s = some (l, x, 0)) : (∀ p ∈ l, PartIn s p) ∧ l.length ≤ s.size ∧ s.size ≤ 2048 := by
  unfold word_Split.f at h
  by_cases hs : s.size > 2048
  · rw [if_pos hs] at h
    injection h with h
    injection h with _ h
    injection h with _ h
    exact absurd h (by decide)
  · rw [if_neg hs] at h
    obtain ⟨h1, h2⟩ := loop_in s _ [] 0 0 l x h (fun q hq => by cases hq) (Nat.zero_le _) (Nat.zero_le _)
    exact ⟨h1, h2, by omega⟩
end Go.Proofs.YtfgogfdbjbnlbaaDoor.PExpr
end
section
namespace Go.Proofs.YtfgogfdbjbnlbaaDoor.PExpr
open Go.RowKit Go.Proofs.YtfgogfdbjbnlbaaDoorW.PrintWords Go.Proofs.YtfgogfdbjbnlbaaDoorW.PrintLast Go.Proofs.YtfgogfdbjbnlbaaDoorW.PrintMore
set_option linter.unusedVariables false
set_option linter.unusedSimpArgs false
def ParsePost (w : World) (n : Nd) (pos why : Int) (e : Ending) (w' : World) : Prop :=
  ∃ v, e = .returned (.tuple #[.agg #[.int .i64 n.f0, .string n.f1, v, .int .i64 n.f3], .int .i64 pos, .int .i64 why]) ∧ Kd.R kNd 58 w' w.heap.size (fun _ => True) v n.f2 ∧ Below w.heap.size w w'
theorem behind_mem {k : Int} {l : List Pt} : (∀ q ∈ behind k l, q ∈ l) ∧ (behind k l).length ≤ l.length := by
  unfold behind
  exact ⟨fun q hq => (List.mem_filter.1 hq).1, List.length_filter_le ..⟩
theorem nameL_mem (pos : Int) : ∀ (l : List Pt) (t : ByteArray), (∀ q ∈ (nameL pos t l).2, q ∈ l) ∧ (nameL pos t l).2.length ≤ l.length
  | [], t => ⟨fun q hq => hq, Nat.le_refl _⟩
  | p :: r, t => by
    rw [nameL]
    split
    · obtain ⟨h1, h2⟩ := nameL_mem pos r (t ++ p.f1)
      exact ⟨fun q hq => List.mem_cons_of_mem _ (h1 q hq), by rw [List.length_cons]; omega⟩
    · exact ⟨fun q hq => hq, Nat.le_refl _⟩
theorem token_mem {s : ByteArray} {p : Pt} {r l : List Pt} {t : Tk} (h : tokenP s p r = some (.ok t l)) : (∀ q ∈ l, q ∈ r) ∧ l.length ≤ r.length := by
  unfold tokenP at h
  split at h
  · obtain ⟨q, hq, hR⟩ := Option.map_eq_some_iff.1 h
    cases q with
    | none => cases hR
    | some x =>
      injection hR with _ hR
      rw [← hR]
      exact behind_mem
  split at h
  · have h' := Option.some.inj h
    unfold numP at h'
    split at h'
    · split at h'
      · injection h' with _ h'
        subst h'
        exact ⟨fun q hq => by simp [hq], by simp; omega⟩
      · injection h' with _ h'
        subst h'
        exact ⟨fun q hq => hq, Nat.le_refl _⟩
    · injection h' with _ h'
      subst h'
      exact ⟨fun q hq => hq, Nat.le_refl _⟩
  split at h
  · have h' := Option.some.inj h
    injection h' with _ h'
    rw [← h']
    exact nameL_mem _ _ _
  · have h' := Option.some.inj h
    unfold signP at h'
    split at h'
    · split at h'
      · injection h' with _ h'
        subst h'
        exact ⟨fun q hq => by simp [hq], by simp⟩
      · injection h' with _ h'
        subst h'
        exact ⟨fun q hq => hq, Nat.le_refl _⟩
    · injection h' with _ h'
      subst h'
      exact ⟨fun q hq => hq, Nat.le_refl _⟩
theorem below_kept {S : Nat → Prop} {w wr w5 : World} (hB : Below w.heap.size w wr) (k : Kept S wr w5) (hS : ∀ j, S j → w.heap.size ≤ j) : Below w.heap.size w w5 := by
  have h5 := Kept.trans ((kept_of_below hB).mono (T := fun k => w.heap.size ≤ k) (fun _ _ q => q)) k (fun j _ q => hS j q)
  exact ⟨h5.os, h5.tape, h5.output, h5.size, fun k hk => h5.block k hk (by omega)⟩
def ParseInv (s : ByteArray) (RL : LexR) (w w2 : World) (b g1 g2 : Nat) (pos0 : Int) (kq : Nat) (w' : World) : Prop :=
  ∃ (acc : List Tk) (l : List Pt) (A : Option Addr) (c : Nat), lexL s kq acc l = some RL ∧ LxT g1 w' s l ∧ w'.heap[g2]? = some (.cells #[.slice A acc.length c, .int .i64 0] 85 (0, 0)) ∧ OwnT w2.heap.size w' (.slice A acc.length c) acc.length acc ∧ acc.length ≤ c ∧
    w'.heap[b]? = some (.cells zeroNd 58 (0, 0)) ∧ w'.heap[b + 1]? = some (.cells #[.int .i64 pos0] 3 (0, 0)) ∧ w'.heap[b + 1 + 1]? = some (.cells #[.int .i64 0] 31 (0, 0)) ∧ Below w.heap.size w w' ∧ w2.heap.size ≤ w'.heap.size ∧ (∀ q ∈ l, PartIn s q) ∧ acc.length + kq ≤ 100000 ∧ l.length ≤ 100000
theorem le_maxLen {n : Nat} (h : n ≤ 100000) : n + 1 ≤ maxLen := by
  unfold maxLen
  exact Nat.le_trans (Nat.succ_le_succ h) (by decide)
theorem le_bytes {n : Nat} (h : n ≤ 100000) : (n + 1) * 32 ≤ 140737488355328 := by
  have h1 : (n + 1) * 32 ≤ 3200032 := by omega
  exact Nat.le_trans h1 (by decide)
theorem le_alloc {b : Nat} {w : World} (h : b ≤ w.heap.size) (o : Obj) : b ≤ (w.alloc o).heap.size := by
  rw [World.size_alloc]
  omega
theorem base_low {a b c : Nat} (h : c = b + 2) (h2 : a < b) : a ≤ c := by omega
theorem grown_below {B : Nat} {w w4 w5 : World} {row : Option Nat} (h : Below B w w4) (hg : w4.grownBy w5 row) (hB : B ≤ w.heap.size) (hr : ∀ k, row = some k → B ≤ k) : Below B w w5 := h.grown hg (Nat.le_trans hB h.size) hr
theorem parse_thrown {w wr w5 w' : World} {g1 b2 b3 b4 : Nat} {n : Nd} {pos why pos1 why1 : Int} (hB : Below w.heap.size w wr) (k5 : Kept (fun k => k = g1) wr w5) (hg : w.heap.size ≤ g1) (hk : Kept (fun k => k = b2 ∨ k = b3 ∨ k = b4) w5 w') (h2 : w.heap.size ≤ b2) (h3 : w.heap.size ≤ b3) (h4 : w.heap.size ≤ b4)
    (hf : (zeroN, pos1, why1) = (n, pos, why)) : ParsePost w n pos why (.returned (.tuple #[ndV zeroN none 0, .int .i64 pos1, .int .i64 why1])) w' := by
  injection hf with e1 e2
  injection e2 with e2 e3
  subst e1
  subst e2
  subst e3
  refine ⟨.slice none 0 0, rfl, Kd.R_nil _ _ _ _ _, ?_⟩
  have h5 := Kept.trans (Kept.trans ((kept_of_below hB).mono (T := fun k => w.heap.size ≤ k) (fun _ _ q => q)) k5 (fun j _ q => by have q' : j = g1 := q; show w.heap.size ≤ j; omega)) hk (fun j _ q => by show w.heap.size ≤ j; rcases q with q | q | q <;> omega)
  exact ⟨h5.os, h5.tape, h5.output, h5.size, fun k hk => h5.block k hk (by omega)⟩
theorem parse_good {w w5 w6 w7 : World} {g2 b2 b3 b4 : Nat} {n n1 : Nd} {B1 : Option Addr} {d1 : Nat} {pos why : Int} (hB : Below w.heap.size w w5) (hN : NdS (fun k => k < w5.heap.size) w6 n1 B1 d1) (k6 : Kept (fun k => k = g2) w5 w6) (hk : Kept (fun k => k = b2 ∨ k = b3 ∨ k = b4) w6 w7) (hg : w.heap.size ≤ g2) (h2 : w.heap.size ≤ b2) (h3 : w.heap.size ≤ b3) (h4 : w.heap.size ≤ b4) (l2 : b2 < w5.heap.size) (l3 : b3 < w5.heap.size) (l4 : b4 < w5.heap.size)
    (hf : (n1, (0 : Int), (0 : Int)) = (n, pos, why)) : ParsePost w n pos why (.returned (.tuple #[ndV n1 B1 d1, .int .i64 0, .int .i64 0])) w7 := by
  injection hf with e1 e2
  injection e2 with e2 e3
  subst e1
  subst e2
  subst e3
  have hN' : NdS (fun k => k < w.heap.size) w7 n1 B1 d1 := hN.kept hk (fun j _ q => by show j < w5.heap.size; rcases q with q | q | q <;> omega) (fun j _ q => Nat.lt_of_lt_of_le q hB.size)
  refine ⟨_, rfl, hN'.owned, ?_⟩
  have h5 := Kept.trans (Kept.trans ((kept_of_below hB).mono (T := fun k => w.heap.size ≤ k) (fun _ _ q => q)) k6 (fun j _ q => by have q' : j = g2 := q; show w.heap.size ≤ j; omega)) hk (fun j _ q => by show w.heap.size ≤ j; rcases q with q | q | q <;> omega)
  exact ⟨h5.os, h5.tape, h5.output, h5.size, fun k hk => h5.block k hk (by omega)⟩
theorem stored_kept (w : World) (b2 b3 b4 : Nat) (x0 x1 x2 x3 : Value) : Kept (fun k => k = b2 ∨ k = b3 ∨ k = b4) w ((((w.setCell ⟨b2, 0, none⟩ x0).setCell ⟨b2, 1, none⟩ x1).setCell ⟨b2, 2, none⟩ x2).setCell ⟨b2, 3, none⟩ x3) :=
  ((((Kept.refl _ w).setCell b2 0 _ (Or.inl (Or.inl rfl))).setCell b2 1 _ (Or.inl (Or.inl rfl))).setCell b2 2 _ (Or.inl (Or.inl rfl))).setCell b2 3 _ (Or.inl (Or.inl rfl))
theorem kept_below {S : Nat → Prop} {w W w' : World} (h : Kept S w W) (hs : W.heap.size = w.heap.size) (hb : Below W.heap.size W w') : Kept S w w' :=
  Kept.trans h (kept_of_below hb) (fun j hj q => by have q' : W.heap.size ≤ j := q; omega)
theorem lx_new {S : Nat → Prop} {w1 w2 : World} {g base c : Nat} {A : Option Addr} {s : ByteArray} {l : List Pt} (hK : Kd.R kPt 109 w1 base (fun _ => True) (.slice A l.length c) l) (k : Kept S w1 w2) (hg : w2.heap[g]? = some (.cells #[.string s, .slice A l.length c] 81 (0, 0))) (hgl : w1.heap.size ≤ g) (hS : ∀ j cur, w1.heap[j]? = some (.cells cur 109 (0, 0)) → ¬ S j) : LxT g w2 s l := by
  have hE : kPt.E = [] := rfl
  have hK2 := Kd.R_step (w1 := w2) (Kd.R_bound hK) (fun j hj hl => by
    obtain ⟨_, _, _, q, hq, cells, hc⟩ := hj
    have hq' : q = 109 := by simpa [hE] using hq
    rw [hq'] at hc
    exact k.block j hl (hS j cells hc))
  obtain ⟨A', c', e, hc, hC⟩ := Kd.R_reads hK2
  injection e with e1 _ e2
  subst e1
  subst e2
  obtain ⟨inner, ho⟩ := Kd.R_own hK
  rcases ho.2 with ⟨q1, q2⟩ | ⟨G, cap, cur, q1, q2, q3, _⟩
  · have hl : l = [] := by
      have : l.length = 0 := by omega
      simpa using this
    subst hl
    exact ⟨g + 1, ⟨_, _, hg, hc, by omega, fun q => absurd rfl q, hC⟩, fun q => absurd rfl q⟩
  · injection q1 with q1 _ _
    subst q1
    have hlt := blk_lt q3
    exact ⟨G, ⟨_, _, hg, hc, by omega, fun _ => ⟨0, rfl⟩, hC⟩, fun _ => ⟨cur, k.blk q3 (hS G cur q3)⟩⟩
set_option maxHeartbeats 2000000 in
set_option maxRecDepth 100000 in
theorem parse_body (s : ByteArray) (n : Nd) (pos why : Int) (w : World) (h : parseS s = some (n, pos, why)) : Calls Tryd.prog 23 #[.string s] w (ParsePost w n pos why) := by
  have hmf := makeFunc_run
  unfold parseS at h
  obtain ⟨⟨l, x2, x3⟩, hsp, h⟩ := Option.bind_eq_some_iff.mp h
  have HSP := Aside0.mk hsp
  have H := Aside0.mk h
  clear hsp h
  refine calls_of_wp_defers Tryd.func23 rfl ?_
  simp only [Tryd.ntmps23, List.size_toArray, List.length_cons, List.length_nil, Nat.reduceAdd, Nat.reduceSub, Array.replicate_succ, Array.replicate_zero, List.push_toArray, List.append_toArray, List.nil_append, List.cons_append]
  go_wp2_with (fail)
  refine (word_Split.calls s l x2 x3 _ HSP.out).mono ?_
  rintro e w1 ⟨v0, rfl, hK, hb⟩
  obtain ⟨A, c, hv0⟩ := Kd.R_slice hK
  subst hv0
  have hs1 : w.heap.size + 3 ≤ w1.heap.size := by simpa using hb.size
  have Z2 := Aside0.mk (blk_below (blk_alloc (blk_alloc (heap_alloc_new w (.cells zeroNd 58)) (.cells #[.int .i64 0] 3)) (.cells #[.int .i64 0] 31)) hb)
  have Z3 := Aside0.mk (show w1.heap[w.heap.size + 1]? = some (.cells #[.int .i64 0] 3 (0, 0)) from blk_below (by rw [← World.size_alloc w (.cells zeroNd 58)]; exact blk_alloc (heap_alloc_new (w.alloc (.cells zeroNd 58)) (.cells #[.int .i64 0] 3)) (.cells #[.int .i64 0] 31)) hb)
  have Z4 := Aside0.mk (show w1.heap[w.heap.size + 1 + 1]? = some (.cells #[.int .i64 0] 31 (0, 0)) from blk_below (by rw [← World.size_alloc w (.cells zeroNd 58), ← World.size_alloc (w.alloc (.cells zeroNd 58)) (.cells #[.int .i64 0] 3)]; exact heap_alloc_new _ _) hb)
  have HB1 := Aside0.mk (show Below w.heap.size w w1 from below_step (below_alloc (below_alloc (below_alloc (Below.refl _ _) _) _) _) hb)
  have HK1 := Aside0.mk hK
  clear hb hK
  have q2 := fun i => blk_cell Z2.out i
  have q3 := blk_cell Z3.out 0
  have q4 := blk_cell Z4.out 0
  have f2 := fun i => blk_frozen Z2.out i
  have f3 := blk_frozen Z3.out 0
  have f4 := blk_frozen Z4.out 0
  have h2l : w.heap.size < w1.heap.size := by omega
  have h3l : w.heap.size + 1 < w1.heap.size := by omega
  have h4l : w.heap.size + 1 + 1 < w1.heap.size := by omega
  by_cases hx : x3 = 0
  · have hh := H.out
    rw [if_neg (by simpa using hx)] at hh
    subst hx
    clear H
    have HH := Aside0.mk hh
    clear hh
    obtain ⟨hin, hll, hs2⟩ := split_in HSP.out
    have HIN := Aside0.mk hin
    have HLL := Aside0.mk hll
    have HS2 := Aside0.mk hs2
    obtain ⟨RL, hRL, hh⟩ := Option.bind_eq_some_iff.mp HH.out
    have HRL := Aside0.mk hRL
    have HH2 := Aside0.mk hh
    clear hin hll hs2 hRL hh HH
    go_wp2_with (fail)
    have X2 := Aside0.mk (show ((((w1.setCell ⟨w.heap.size + 1, 0, none⟩ (.int .i64 x2)).setCell ⟨w.heap.size + 1 + 1, 0, none⟩ (.int .i64 0)).alloc (.cells #[.string s, .slice A l.length c] 81)).alloc (.cells #[.slice none 0 0, .int .i64 0] 85)).heap[w.heap.size]? = some (.cells zeroNd 58 (0, 0)) from blk_alloc (blk_alloc (blk_setO (blk_setO Z2.out (by omega)) (by omega)) _) _)
    have X3 := Aside0.mk (show ((((w1.setCell ⟨w.heap.size + 1, 0, none⟩ (.int .i64 x2)).setCell ⟨w.heap.size + 1 + 1, 0, none⟩ (.int .i64 0)).alloc (.cells #[.string s, .slice A l.length c] 81)).alloc (.cells #[.slice none 0 0, .int .i64 0] 85)).heap[w.heap.size + 1]? = some (.cells #[.int .i64 x2] 3 (0, 0)) from blk_alloc (blk_alloc (blk_setO (blk_set Z3.out 0 _) (by omega)) _) _)
    have X4 := Aside0.mk (show ((((w1.setCell ⟨w.heap.size + 1, 0, none⟩ (.int .i64 x2)).setCell ⟨w.heap.size + 1 + 1, 0, none⟩ (.int .i64 0)).alloc (.cells #[.string s, .slice A l.length c] 81)).alloc (.cells #[.slice none 0 0, .int .i64 0] 85)).heap[w.heap.size + 1 + 1]? = some (.cells #[.int .i64 0] 31 (0, 0)) from blk_alloc (blk_alloc (blk_set (blk_setO Z4.out (by omega)) 0 _) _) _)
    have XG1 := Aside0.mk (show ((((w1.setCell ⟨w.heap.size + 1, 0, none⟩ (.int .i64 x2)).setCell ⟨w.heap.size + 1 + 1, 0, none⟩ (.int .i64 0)).alloc (.cells #[.string s, .slice A l.length c] 81)).alloc (.cells #[.slice none 0 0, .int .i64 0] 85)).heap[w1.heap.size]? = some (.cells #[.string s, .slice A l.length c] 81 (0, 0)) from blk_alloc (by
      have := heap_alloc_new ((w1.setCell ⟨w.heap.size + 1, 0, none⟩ (.int .i64 x2)).setCell ⟨w.heap.size + 1 + 1, 0, none⟩ (.int .i64 0)) (.cells #[.string s, .slice A l.length c] 81)
      rw [World.size_setCell, World.size_setCell] at this
      exact this) _)
    have XG2 := Aside0.mk (show ((((w1.setCell ⟨w.heap.size + 1, 0, none⟩ (.int .i64 x2)).setCell ⟨w.heap.size + 1 + 1, 0, none⟩ (.int .i64 0)).alloc (.cells #[.string s, .slice A l.length c] 81)).alloc (.cells #[.slice none 0 0, .int .i64 0] 85)).heap[w1.heap.size + 1]? = some (.cells #[.slice none 0 0, .int .i64 0] 85 (0, 0)) from by
      have := heap_alloc_new (((w1.setCell ⟨w.heap.size + 1, 0, none⟩ (.int .i64 x2)).setCell ⟨w.heap.size + 1 + 1, 0, none⟩ (.int .i64 0)).alloc (.cells #[.string s, .slice A l.length c] 81)) (.cells #[.slice none 0 0, .int .i64 0] 85)
      rw [World.size_alloc, World.size_setCell, World.size_setCell] at this
      exact this)
    have XB := Aside0.mk (show Below w.heap.size w ((((w1.setCell ⟨w.heap.size + 1, 0, none⟩ (.int .i64 x2)).setCell ⟨w.heap.size + 1 + 1, 0, none⟩ (.int .i64 0)).alloc (.cells #[.string s, .slice A l.length c] 81)).alloc (.cells #[.slice none 0 0, .int .i64 0] 85)) from below_alloc (below_alloc ((HB1.out.setCell (p := ⟨w.heap.size + 1, 0, none⟩) (Nat.le_succ _) _).setCell (p := ⟨w.heap.size + 1 + 1, 0, none⟩) (show w.heap.size ≤ w.heap.size + 1 + 1 by omega) _) _) _)
    have hXs : ((((w1.setCell ⟨w.heap.size + 1, 0, none⟩ (.int .i64 x2)).setCell ⟨w.heap.size + 1 + 1, 0, none⟩ (.int .i64 0)).alloc (.cells #[.string s, .slice A l.length c] 81)).alloc (.cells #[.slice none 0 0, .int .i64 0] 85)).heap.size = w1.heap.size + 2 := by simp
    have XL : LxT w1.heap.size ((((w1.setCell ⟨w.heap.size + 1, 0, none⟩ (.int .i64 x2)).setCell ⟨w.heap.size + 1 + 1, 0, none⟩ (.int .i64 0)).alloc (.cells #[.string s, .slice A l.length c] 81)).alloc (.cells #[.slice none 0 0, .int .i64 0] 85)) s l := by
      refine lx_new (S := fun k => k = w.heap.size + 1 ∨ k = w.heap.size + 1 + 1) HK1.out (((((Kept.refl _ w1).setCell (w.heap.size + 1) 0 _ (Or.inl (Or.inl rfl))).setCell (w.heap.size + 1 + 1) 0 _ (Or.inl (Or.inr rfl))).alloc _).alloc _) XG1.out (Nat.le_refl _) (fun j cur hj q => ?_)
      rcases q with q | q
      · rw [q, Z3.out] at hj
        injection hj with hj
        injection hj with _ hj
        exact absurd hj (by decide)
      · rw [q, Z4.out] at hj
        injection hj with hj
        injection hj with _ hj
        exact absurd hj (by decide)
    have XLa := Aside0.mk XL
    clear XL q2 q3 q4 f2 f3 f4 Z2 Z3 Z4 HB1 HK1
    generalize (((w1.setCell ⟨w.heap.size + 1, 0, none⟩ (.int .i64 x2)).setCell ⟨w.heap.size + 1 + 1, 0, none⟩ (.int .i64 0)).alloc (.cells #[.string s, .slice A l.length c] 81)).alloc (.cells #[.slice none 0 0, .int .i64 0] 85) = w2 at X2 X3 X4 XG1 XG2 XB hXs XLa ⊢
    have HI := Aside0.mk (show ParseInv s RL w w2 w.heap.size w1.heap.size (w1.heap.size + 1) x2 (l.length + 1) w2 from ⟨[], l, none, 0, HRL.out, XLa.out, XG2.out, World.ownsRow_nil _ _ _ _, Nat.le_refl _, X2.out, X3.out, X4.out, XB.out, Nat.le_refl _, HIN.out, by have h1 := HLL.out; have h2 := HS2.out; simp; omega, by have h1 := HLL.out; have h2 := HS2.out; omega⟩)
    clear X2 X3 X4 XG1 XG2 XB XLa HRL
    obtain ⟨v6, hv6⟩ : ∃ v6, v6 = Value.pointer (some ⟨w1.heap.size, 0, none⟩) := ⟨_, rfl⟩
    go_loopg [31] (l.length + 1) (fun kq v31 w' => Aside0 (ParseInv s RL w w2 w.heap.size w1.heap.size (w1.heap.size + 1) x2 kq w'))
    case atStart => exact HI
    case round =>
      obtain ⟨acc, l', A', c', hlex, hLx, hg2, hO, hac, h2, h3, h4, hB, h2s, hin, hbd, hll⟩ := hrel.out
      clear HI hrel
      have U2 := Aside0.mk h2
      have U3 := Aside0.mk h3
      have U4 := Aside0.mk h4
      have UG := Aside0.mk hg2
      have UO := Aside0.mk hO
      have UB := Aside0.mk hB
      have UL := Aside0.mk hLx
      have UI := Aside0.mk hin
      have UX := Aside0.mk hlex
      have hg1l : w1.heap.size < wr.heap.size := hLx.lt
      have hg2l : w1.heap.size + 1 < wr.heap.size := blk_lt hg2
      have g2 := fun i => blk_cell hg2 i
      have fg2 := fun i => blk_frozen hg2 i
      clear h2 h3 h4 hg2 hO hB hLx hin hlex
      obtain ⟨gk, rfl⟩ : ∃ q, gk = q + 1 := by cases gk with | zero => cases UX.out | succ q => exact ⟨q, rfl⟩
      cases l' with
      | nil =>
        obtain ⟨T1, hL1, _⟩ := UL.out
        obtain ⟨A1, c1, hlc⟩ := hL1.nil_cells
        have hrl := Aside0.mk (Option.some.inj (show some (LexR.toks acc) = some RL from UX.out))
        obtain ⟨i0, hi0, hz0, hz1, hz2⟩ := info_parts infoTk
        have HO1 := Aside0.mk (World.ownsRow.alloc UO.out (.cells #[.int .i64 4, .string ⟨#[]⟩, .int .i64 s.size] 87))
        have hacl : acc.length ≤ 100000 := by omega
        have HACL := Aside0.mk hacl
        clear hacl
        go_wp2_with (at_builtin; refine wpList_append_lies _ rfl _ _ 83 rfl w2.heap.size 87 i0 _ 3 32 Tryd.underlying83 hi0 hz0 hz1 hz2 rfl (by decide) _ acc.length (flatT acc) rfl HO1.out ⟨wr.heap.size, 0, none⟩ 1 1 [.int .i64 4, .string ⟨#[]⟩, .int .i64 s.size] rfl rfl (World.news_of_block (heap_alloc_new wr _)) (by simp [Value.oneCell']) (by decide) (le_maxLen HACL.out) (le_bytes HACL.out) (le_alloc h2s _) (wr.heap.size + 1) (by simp) ?_; intro gb cb w4 ho4 hgr4 hat4 hlt4; have kg := grown_kept hgr4; have E2 := Aside0.mk (kg.blk (blk_alloc U2.out _) (OwnT.ne HO1.out (blk_alloc U2.out _) (by decide))); have E3 := Aside0.mk (kg.blk (blk_alloc U3.out _) (OwnT.ne HO1.out (blk_alloc U3.out _) (by decide))); have E4 := Aside0.mk (kg.blk (blk_alloc U4.out _) (OwnT.ne HO1.out (blk_alloc U4.out _) (by decide))); have EG := Aside0.mk (kg.blk (blk_alloc UG.out _) (OwnT.ne HO1.out (blk_alloc UG.out _) (by decide))); have EB := Aside0.mk (grown_below (below_alloc UB.out _) hgr4 (Nat.le_refl _) (fun k hk => Nat.le_trans (base_low hXs h2l) (HO1.out.lt k hk).1)); have EO := Aside0.mk ho4; have eg := blk_cell EG.out 0; have efg := blk_frozen EG.out 0; have hse := Aside0.mk (Nat.le_trans (le_alloc h2s (.cells #[.int .i64 4, .string ⟨#[]⟩, .int .i64 s.size] 87)) kg.size); clear kg ho4 hgr4 hat4 g2 fg2)
        have W2 := Aside0.mk (show (w4.setCell ⟨w1.heap.size + 1, 0, none⟩ (.slice (some ⟨gb, 0, none⟩) (acc.length + 1) cb)).heap[w.heap.size]? = some (.cells zeroNd 58 (0, 0)) from blk_setO E2.out (by omega))
        have W3 := Aside0.mk (show (w4.setCell ⟨w1.heap.size + 1, 0, none⟩ (.slice (some ⟨gb, 0, none⟩) (acc.length + 1) cb)).heap[w.heap.size + 1]? = some (.cells #[.int .i64 x2] 3 (0, 0)) from blk_setO E3.out (by omega))
        have W4 := Aside0.mk (show (w4.setCell ⟨w1.heap.size + 1, 0, none⟩ (.slice (some ⟨gb, 0, none⟩) (acc.length + 1) cb)).heap[w.heap.size + 1 + 1]? = some (.cells #[.int .i64 0] 31 (0, 0)) from blk_setO E4.out (by omega))
        have WG := Aside0.mk (show (w4.setCell ⟨w1.heap.size + 1, 0, none⟩ (.slice (some ⟨gb, 0, none⟩) (acc.length + 1) cb)).heap[w1.heap.size + 1]? = some (.cells #[.slice (some ⟨gb, 0, none⟩) (acc.length + 1) cb, .int .i64 0] 85 (0, 0)) from blk_set EG.out 0 _)
        have WB := Aside0.mk (show Below w.heap.size w (w4.setCell ⟨w1.heap.size + 1, 0, none⟩ (.slice (some ⟨gb, 0, none⟩) (acc.length + 1) cb)) from EB.out.setCell (p := ⟨w1.heap.size + 1, 0, none⟩) (show w.heap.size ≤ w1.heap.size + 1 by omega) _)
        have WO := Aside0.mk (show OwnT w2.heap.size (w4.setCell ⟨w1.heap.size + 1, 0, none⟩ (.slice (some ⟨gb, 0, none⟩) (acc.length + 1) cb)) (.slice (some ⟨gb, 0, none⟩) (acc.length + 1) cb) (acc.length + 1) (acc ++ [lastT s]) from OwnT.kept (S := fun k => k = w1.heap.size + 1) (by rw [OwnT, flatT_snoc]; exact EO.out) ((Kept.refl (fun k => k = w1.heap.size + 1) w4).setCell (w1.heap.size + 1) 0 _ (Or.inl rfl)) (fun j _ hj q => by have q' : j = w1.heap.size + 1 := q; omega))
        clear E2 E3 E4 EG EB EO eg efg U2 U3 U4 UG UO UB UL UI HO1
        generalize w4.setCell ⟨w1.heap.size + 1, 0, none⟩ (.slice (some ⟨gb, 0, none⟩) (acc.length + 1) cb) = w5 at W2 W3 W4 WG WB WO ⊢
        have hh := HH2.out
        rw [← hrl.out] at hh
        replace hh : readP (acc ++ [lastT s]) = some (n, pos, why) := hh
        unfold readP at hh
        obtain ⟨R, hR, hh⟩ := Option.bind_eq_some_iff.mp hh
        obtain ⟨_, _, ef, hcb⟩ := WO.out.form
        injection ef with _ _ ef
        rw [← ef] at hcb
        obtain ⟨T, hRd, hTb⟩ := WO.out.rd (g := w1.heap.size + 1) (by simp) (by simp) WG.out (by omega) hcb
        have hpc := parse_calls (w1.heap.size + 1) T 5000 (by decide) 0 0 (by decide) (by decide) w5 (acc ++ [lastT s]) R (by simp) hRd hR
        have hw5 := blk_lt WG.out
        clear WO WG hRd hR ef HH2
        cases R with
        | bad why1 pos1 =>
          have hfin := Option.some.inj (show some (zeroN, pos1, why1) = some (n, pos, why) from hh)
          refine hpc.mono ?_
          intro e w6 hq
          obtain ⟨rfl, k6⟩ := Post.bad_ hq
          exact thrown_end (b2 := w.heap.size) (b3 := w.heap.size + 1) (b4 := w.heap.size + 1 + 1) rfl rfl rfl ⟨zeroNd, rfl, k6.blk W2.out (by omega)⟩ ⟨_, k6.blk W3.out (by omega)⟩ ⟨_, k6.blk W4.out (by omega)⟩ (by omega) (by omega) (by omega) (fun w' hk' => parse_thrown WB.out k6 (by omega) hk' (by omega) (by omega) (by omega) hfin)
        | ok n1 l1 =>
          cases l1 with
          | nil => cases hh
          | cons t1 r1 =>
            replace hh : (if t1.f0 ≠ 4 then some (zeroN, t1.f2, 30) else some (n1, 0, 0)) = some (n, pos, why) := hh
            have HH3 := Aside0.mk hh
            clear hh
            refine hpc.mono ?_
            intro e w6 hq
            obtain ⟨B1, d1, rfl, hN6, _, hR6, k6⟩ := Post.ok_ hq
            clear hq hpc
            obtain ⟨off6, c6, y0, y1, yz0, yz1, yc, yT, yC⟩ := hR6.cell
            obtain ⟨z0, z1, z2⟩ := head_cells yC
            have V2 := Aside0.mk (k6.blk W2.out (by omega))
            have V3 := Aside0.mk (k6.blk W3.out (by omega))
            have V4 := Aside0.mk (k6.blk W4.out (by omega))
            have VN := Aside0.mk hN6
            have VK := Aside0.mk k6
            have hTl6 := toks_lt yC (by simp)
            have hlen6 : (0 : Int) < (r1.length : Int) + 1 := by omega
            clear hN6 hR6 k6 yC yT W2 W3 W4
            have q2 := fun i => blk_cell V2.out i
            have f2 := fun i => blk_frozen V2.out i
            have q3 := blk_cell V3.out 0
            have q4 := blk_cell V4.out 0
            have f3 := blk_frozen V3.out 0
            have f4 := blk_frozen V4.out 0
            have hT2 : T ≠ w.heap.size := by omega
            unfold ndV
            by_cases ht : t1.f0 = 4
            · go_wp2_with (fail)
              have hff : (n1, (0 : Int), (0 : Int)) = (n, pos, why) := by
                have h0 := HH3.out
                rw [if_neg (by simpa using ht)] at h0
                exact Option.some.inj h0
              have hkk := ((stored_kept w6 w.heap.size (w.heap.size + 1) (w.heap.size + 1 + 1) (.int .i64 n1.f0) (.string n1.f1) (.slice B1 n1.f2.length d1) (.int .i64 n1.f3)).trans (stored_kept _ w.heap.size (w.heap.size + 1) (w.heap.size + 1 + 1) (.int .i64 n1.f0) (.string n1.f1) (.slice B1 n1.f2.length d1) (.int .i64 n1.f3)) (fun _ _ q => q)).setCell (w.heap.size + 1) 0 (.int .i64 0) (Or.inl (Or.inr (Or.inl rfl)))
              have hkk2 := hkk.setCell (w.heap.size + 1 + 1) 0 (.int .i64 0) (Or.inl (Or.inr (Or.inr rfl)))
              exact idle_end (b2 := w.heap.size) (b3 := w.heap.size + 1) (b4 := w.heap.size + 1 + 1) (n := n1) (A := B1) (c := d1) (pos := 0) (why := 0) rfl rfl rfl (blk_setO (blk_setO (blk_set (blk_set (blk_set (blk_set (blk_set (blk_set (blk_set (blk_set V2.out 0 _) 1 _) 2 _) 3 _) 0 _) 1 _) 2 _) 3 _) (by omega)) (by omega)) (blk_setO (blk_set (blk_setO (blk_setO (blk_setO (blk_setO (blk_setO (blk_setO (blk_setO (blk_setO V3.out (by omega)) (by omega)) (by omega)) (by omega)) (by omega)) (by omega)) (by omega)) (by omega)) 0 _) (by omega)) (blk_set (blk_setO (blk_setO (blk_setO (blk_setO (blk_setO (blk_setO (blk_setO (blk_setO (blk_setO V4.out (by omega)) (by omega)) (by omega)) (by omega)) (by omega)) (by omega)) (by omega)) (by omega)) (by omega)) 0 _) (parse_good WB.out VN.out VK.out hkk2 (by omega) (by omega) (by omega) (by omega) (by omega) (by omega) (by omega) hff)
            · have htf := eq_false ht
              go_wp2_with (fail)
              have hff : (zeroN, t1.f2, (30 : Int)) = (n, pos, why) := by
                have h0 := HH3.out
                rw [if_pos ht] at h0
                exact Option.some.inj h0
              refine (fail_calls 30 t1.f2 _).mono ?_
              intro e w7 hq
              obtain ⟨he, hb7⟩ := hq
              unfold Thrown at he
              subst he
              have hkk := kept_below (stored_kept w6 w.heap.size (w.heap.size + 1) (w.heap.size + 1 + 1) (.int .i64 n1.f0) (.string n1.f1) (.slice B1 n1.f2.length d1) (.int .i64 n1.f3)) (by simp) hb7
              exact thrown_end (b2 := w.heap.size) (b3 := w.heap.size + 1) (b4 := w.heap.size + 1 + 1) rfl rfl rfl ⟨ndCs n1 B1 d1, rfl, blk_below (blk_set (blk_set (blk_set (blk_set V2.out 0 _) 1 _) 2 _) 3 _) hb7⟩ ⟨_, blk_below (blk_setO (blk_setO (blk_setO (blk_setO V3.out (by omega)) (by omega)) (by omega)) (by omega)) hb7⟩ ⟨_, blk_below (blk_setO (blk_setO (blk_setO (blk_setO V4.out (by omega)) (by omega)) (by omega)) (by omega)) hb7⟩ (by omega) (by omega) (by omega) (fun w' hk' => parse_thrown WB.out VK.out (by omega) (hkk.trans hk' (fun _ _ q => q)) (by omega) (by omega) (by omega) hff)
      | cons p r =>
        obtain ⟨T1, hL1, hT1⟩ := UL.out
        obtain ⟨off1, c1, k0, k1, kz1, hc1, hTg1, hTl1, x0, x1, xx2, hC1⟩ := hL1.cells
        have hn1 : (0 : Int) < (r.length : Int) + 1 := by omega
        clear k0 kz1 x0 x1 xx2 hC1
        have hlx : ((tokenP s p r).bind fun R => match R with | .bad why pos => some (LexR.bad why pos) | .ok t l => lexL s gk (acc ++ [t]) l) = some RL := UX.out
        obtain ⟨RT, hRT, hlx⟩ := Option.bind_eq_some_iff.mp hlx
        have HRT := Aside0.mk hRT
        have HLX := Aside0.mk hlx
        clear hRT hlx UX
        go_wp2_with (fail)
        refine start_ (n := 12) (S := fun w' => w'.cell? ⟨w1.heap.size + 1, 0, none⟩ = some (.slice A' acc.length c')) (ds := [11]) (Array.replicate 12 false) (by kernel_rfl) rfl rfl ((g2 0).trans rfl) (fun hHeld => ?_)
        ((refine rpure (i := 0) (N := some 32) (v := ?_) (a' := ?_) rfl rfl (by kernel_rfl) (fun c a w h => put_ok (by decide) c a w h) (Or.inl ⟨by rfl, ?_⟩) ?_ ?_); rotate_left; (· intro w'; go_simp; with_reducible rfl); rotate_left; (· (simp only [Act.put, List.setIfInBounds_toArray, List.set_cons_zero, List.set_cons_succ, i64_w, i32_w]; rfl)))
        ((refine rpure (i := 1) (N := some 33) (v := ?_) (a' := ?_) rfl rfl (by kernel_rfl) (fun c a w h => put_ok (by decide) c a w h) (Or.inl ⟨by rfl, ?_⟩) ?_ ?_); rotate_left; (· intro w'; go_simp; with_reducible rfl); rotate_left; (· (simp only [Act.put, List.setIfInBounds_toArray, List.set_cons_zero, List.set_cons_succ, i64_w, i32_w]; rfl)))
        ((refine rpure (i := 2) (N := some 34) (v := ?_) (a' := ?_) rfl rfl (by kernel_rfl) (fun c a w h => put_ok (by decide) c a w h) (Or.inl ⟨by rfl, ?_⟩) ?_ ?_); rotate_left; (· intro w'; go_simp; with_reducible rfl); rotate_left; (· (simp only [Act.put, List.setIfInBounds_toArray, List.set_cons_zero, List.set_cons_succ, i64_w, i32_w]; rfl)))
        ((refine rpure (i := 3) (N := some 35) (v := ?_) (a' := ?_) rfl rfl (by kernel_rfl) (fun c a w h => put_ok (by decide) c a w h) (Or.inl ⟨by rfl, ?_⟩) ?_ ?_); rotate_left; (· intro w'; go_simp; with_reducible rfl); rotate_left; (· (simp only [Act.put, List.setIfInBounds_toArray, List.set_cons_zero, List.set_cons_succ, i64_w, i32_w]; rfl)))
        ((refine rtake (i := 4) (N := some 36) (v := ?_) (a' := ?_) rfl rfl (by kernel_rfl) (fun c a w h => put_ok (by decide) c a w h) (Or.inl ⟨by rfl, ?_⟩) hHeld ?_ ?_); rotate_left; (· rintro w' s0; go_simp; with_reducible rfl); rotate_left; (· (simp only [Act.put, List.setIfInBounds_toArray, List.set_cons_zero, List.set_cons_succ, i64_w, i32_w]; rfl)))
        ((refine rpure (i := 5) (N := some 37) (v := ?_) (a' := ?_) rfl rfl (by kernel_rfl) (fun c a w h => put_ok (by decide) c a w h) (Or.inl ⟨by rfl, ?_⟩) ?_ ?_); rotate_left; (· intro w'; go_simp; with_reducible rfl); rotate_left; (· (simp only [Act.put, List.setIfInBounds_toArray, List.set_cons_zero, List.set_cons_succ, i64_w, i32_w]; rfl)))
        have htc := token_calls w1.heap.size wr.drew s p r RT (UL.out.kept (Kept.refl (fun _ => False) wr).drew (fun q => q) (fun _ _ _ q => q)) (UI.out p (by simp)) (fun q hq => UI.out q (by simp [hq])) (Nat.le_trans HS2.out (by decide)) (Nat.le_of_succ_le hll) HRT.out
        refine rone (i := 6) (N := some 38) rfl rfl (by kernel_rfl) (by decide) (fun K hK => ?_)
        refine rcall 40 #[.pointer (some ⟨w1.heap.size, 0, none⟩)] (by rfl) rfl (by go_simp) ?_
        cases RT with
        | bad why1 pos1 =>
          obtain rfl := Option.some.inj (show some (LexR.bad why1 pos1) = some RL from HLX.out)
          have hfin := Option.some.inj (show some (zeroN, pos1, why1) = some (n, pos, why) from HH2.out)
          refine htc.mono ?_
          rintro e w5 ⟨he, hk5⟩
          unfold Thrown at he
          subst he
          refine Or.inr ⟨_, rfl, ?_⟩
          have k5 := Kept.trans ((Kept.refl (fun k => k = w1.heap.size) wr).drew) hk5 (fun _ _ q => q)
          exact thrown_end (b2 := w.heap.size) (b3 := w.heap.size + 1) (b4 := w.heap.size + 1 + 1) rfl rfl rfl ⟨zeroNd, rfl, k5.blk U2.out (by omega)⟩ ⟨_, k5.blk U3.out (by omega)⟩ ⟨_, k5.blk U4.out (by omega)⟩ (by omega) (by omega) (by omega) (fun w' hk' => parse_thrown UB.out k5 (by omega) hk' (by omega) (by omega) (by omega) hfin)
        | ok tk lk =>
          refine htc.mono ?_
          rintro e w5 ⟨rfl, hL5, hK5⟩
          have k5 := Kept.trans ((Kept.refl (fun k => k = w1.heap.size) wr).drew) hK5 (fun _ _ q => q)
          have hs5 := k5.size
          refine Or.inl ⟨_, rfl, hK _ _ ((blk_cell (k5.blk UG.out (by omega)) 0).trans rfl) (fun hHeld => ?_)⟩
          clear hK K htc
          refine norm_ (by (simp only [Act.put, List.setIfInBounds_toArray, List.set_cons_zero, List.set_cons_succ, i64_w, i32_w]; rfl)) ?_
          refine rone (i := 7) (N := some 39) rfl rfl (by kernel_rfl) (by decide) (fun K hK => ?_)
          unfold tokV
          go_simp
          refine hK _ _ ((blk_cell (blk_alloc (k5.blk UG.out (by omega)) _) 0).trans rfl) (fun hHeld => ?_)
          clear hK K
          obtain ⟨i0, hi0, hz0, hz1, hz2⟩ := info_parts infoTk
          have HO5 := Aside0.mk (show OwnT w2.heap.size (w5.alloc (.cells #[.int .i64 tk.f0, .string tk.f1, .int .i64 tk.f2] 87)) (.slice A' acc.length c') acc.length acc from World.ownsRow.alloc (OwnT.kept UO.out k5 (fun j _ hj q => by have q' : j = w1.heap.size := q; omega)) _)
          have hacl : acc.length ≤ 100000 := by omega
          have hw25 : w2.heap.size ≤ w5.heap.size := Nat.le_trans h2s hs5
          refine rone (i := 8) (N := some 40) rfl rfl (by kernel_rfl) (by decide) (fun K hK => ?_)
          refine step_append_lies (w5.alloc (.cells #[.int .i64 tk.f0, .string tk.f1, .int .i64 tk.f2] 87)) (by rfl) _ _ _ (by rfl) w2.heap.size 87 i0 _ 3 32 Tryd.underlying83 hi0 hz0 hz1 hz2 rfl (by decide) (.slice A' acc.length c') acc.length (flatT acc) (by rfl) HO5.out ⟨w5.heap.size, 0, none⟩ 1 1 (tkL tk) (by rfl) (by rfl) (World.news_of_block (heap_alloc_new w5 _)) (by simp [tkL, Value.oneCell']) (by decide) (le_maxLen hacl) (le_bytes hacl) (le_alloc hw25 _) (w5.heap.size + 1) (by simp) ?_
          intro gb cb w4 ho4 hgr4 hat4 hlt4
          have kg := grown_kept hgr4
          have E2 := Aside0.mk (kg.blk (blk_alloc (k5.blk U2.out (by omega)) _) (OwnT.ne HO5.out (blk_alloc (k5.blk U2.out (by omega)) _) (by decide)))
          have E3 := Aside0.mk (kg.blk (blk_alloc (k5.blk U3.out (by omega)) _) (OwnT.ne HO5.out (blk_alloc (k5.blk U3.out (by omega)) _) (by decide)))
          have E4 := Aside0.mk (kg.blk (blk_alloc (k5.blk U4.out (by omega)) _) (OwnT.ne HO5.out (blk_alloc (k5.blk U4.out (by omega)) _) (by decide)))
          have EG := Aside0.mk (kg.blk (blk_alloc (k5.blk UG.out (by omega)) _) (OwnT.ne HO5.out (blk_alloc (k5.blk UG.out (by omega)) _) (by decide)))
          have EL := Aside0.mk ((hL5.kept ((Kept.refl (fun _ => False) w5).alloc _) (fun q => q) (fun _ _ _ q => q)).kept kg (fun q => by have := (HO5.out.lt _ q.symm).1; omega) (fun j cur hj q => OwnT.ne HO5.out hj (by decide) q))
          have EB := Aside0.mk (grown_below (below_alloc (below_kept UB.out k5 (fun j q => by have q' : j = w1.heap.size := q; omega)) _) hgr4 (Nat.le_refl _) (fun k hk => Nat.le_trans (base_low hXs h2l) (HO5.out.lt k hk).1))
          have EO := Aside0.mk ho4
          have hse : w2.heap.size ≤ w4.heap.size := Nat.le_trans (le_alloc hw25 _) kg.size
          have eg := blk_cell EG.out 0
          have efg := blk_frozen EG.out 0
          clear kg ho4 hgr4 hat4 g2 fg2 HO5 k5 hK5 hL5
          refine hK _ _ (eg.trans rfl) (fun hHeld => ?_)
          clear hK K
          refine norm_ (show _ = Act.put _ (some 40) (.slice (some ⟨gb, 0, none⟩) (acc.length + 1) cb) from rfl) ?_
          refine norm_ (by (simp only [Act.put, List.setIfInBounds_toArray, List.set_cons_zero, List.set_cons_succ, i64_w, i32_w]; rfl)) ?_
          ((refine rpure (i := 9) (N := some 41) (v := ?_) (a' := ?_) rfl rfl (by kernel_rfl) (fun c a w h => put_ok (by decide) c a w h) (Or.inl ⟨by rfl, ?_⟩) ?_ ?_); rotate_left; (· intro w'; go_simp; with_reducible rfl); rotate_left; (· (simp only [Act.put, List.setIfInBounds_toArray, List.set_cons_zero, List.set_cons_succ, i64_w, i32_w]; rfl)))
          ((refine rpure (i := 10) (N := some 42) (v := ?_) (a' := ?_) rfl rfl (by kernel_rfl) (fun c a w h => put_ok (by decide) c a w h) (Or.inl ⟨by rfl, ?_⟩) ?_ ?_); rotate_left; (· intro w'; go_simp; with_reducible rfl); rotate_left; (· (simp only [Act.put, List.setIfInBounds_toArray, List.set_cons_zero, List.set_cons_succ, i64_w, i32_w]; rfl)))
          refine rlast (i := 11) (N := none) rfl rfl (by kernel_rfl) (by decide) (fun K hK => ?_)
          rw [if_pos (by rfl)]
          unfold Oper.wp
          go_simp
          refine hK _ _ (done_ (by kernel_rfl) ?_)
          clear hK K hHeld
          have tm := token_mem HRT.out
          have HI := Aside0.mk (show ParseInv s RL w w2 w.heap.size w1.heap.size (w1.heap.size + 1) x2 gk (w4.setCell ⟨w1.heap.size + 1, 0, none⟩ (.slice (some ⟨gb, 0, none⟩) (acc.length + 1) cb)) from by
            have hn : (acc ++ [tk]).length = acc.length + 1 := by simp
            have WO : OwnT w2.heap.size (w4.setCell ⟨w1.heap.size + 1, 0, none⟩ (.slice (some ⟨gb, 0, none⟩) (acc.length + 1) cb)) (.slice (some ⟨gb, 0, none⟩) (acc.length + 1) cb) (acc.length + 1) (acc ++ [tk]) := OwnT.kept (S := fun k => k = w1.heap.size + 1) (by rw [OwnT, flatT_snoc]; exact EO.out) ((Kept.refl (fun k => k = w1.heap.size + 1) w4).setCell (w1.heap.size + 1) 0 _ (Or.inl rfl)) (fun j _ hj q => by have q' : j = w1.heap.size + 1 := q; omega)
            obtain ⟨_, _, ef, hcb⟩ := WO.form
            injection ef with _ _ ef
            rw [← ef] at hcb
            refine ⟨acc ++ [tk], lk, some ⟨gb, 0, none⟩, cb, HLX.out, EL.out.kept (S := fun k => k = w1.heap.size + 1) ((Kept.refl (fun k => k = w1.heap.size + 1) w4).setCell (w1.heap.size + 1) 0 _ (Or.inl rfl)) (fun q => by have q' : w1.heap.size = w1.heap.size + 1 := q; omega) (fun j cur hj q => by
              have q' : j = w1.heap.size + 1 := q
              rw [q', EG.out] at hj
              injection hj with hj
              injection hj with _ hj
              exact absurd hj (by decide)), ?_, ?_, ?_, blk_setO E2.out (by omega), blk_setO E3.out (by omega), blk_setO E4.out (by omega), EB.out.setCell (p := ⟨w1.heap.size + 1, 0, none⟩) (show w.heap.size ≤ w1.heap.size + 1 by omega) _, by rw [World.size_setCell]; exact hse, fun q hq => UI.out q (by simp [tm.1 q hq]), ?_, Nat.le_trans tm.2 (Nat.le_of_succ_le hll)⟩
            · rw [hn]
              exact blk_set EG.out 0 _
            · rw [hn]
              exact WO
            · rw [hn]
              exact hcb
            · rw [hn]
              omega)
          clear E2 E3 E4 EG EL EB EO eg efg U2 U3 U4 UG UO UB UL UI HRT HLX
          generalize (w4.setCell ⟨w1.heap.size + 1, 0, none⟩ (.slice (some ⟨gb, 0, none⟩) (acc.length + 1) cb)) = wf at HI ⊢
          go_wp2_with (fail)
          go_roundg gk
          case measure => omega
          case rel => exact HI
  · have hh := H.out
    rw [if_pos (by simpa using hx)] at hh
    have hff : (zeroN, x2, x3) = (n, pos, why) := Option.some.inj hh
    have hxf := eq_false hx
    clear hh H HSP HK1
    go_wp2_with (fail)
    have X2 := Aside0.mk (show ((w1.setCell ⟨w.heap.size + 1, 0, none⟩ (.int .i64 x2)).setCell ⟨w.heap.size + 1 + 1, 0, none⟩ (.int .i64 x3)).heap[w.heap.size]? = some (.cells zeroNd 58 (0, 0)) from blk_setO (blk_setO Z2.out (by omega)) (by omega))
    have X3 := Aside0.mk (show ((w1.setCell ⟨w.heap.size + 1, 0, none⟩ (.int .i64 x2)).setCell ⟨w.heap.size + 1 + 1, 0, none⟩ (.int .i64 x3)).heap[w.heap.size + 1]? = some (.cells #[.int .i64 x2] 3 (0, 0)) from blk_setO (blk_set Z3.out 0 _) (by omega))
    have X4 := Aside0.mk (show ((w1.setCell ⟨w.heap.size + 1, 0, none⟩ (.int .i64 x2)).setCell ⟨w.heap.size + 1 + 1, 0, none⟩ (.int .i64 x3)).heap[w.heap.size + 1 + 1]? = some (.cells #[.int .i64 x3] 31 (0, 0)) from blk_set (blk_setO Z4.out (by omega)) 0 _)
    have XK := Aside0.mk (show Kept (fun k => k = w.heap.size ∨ k = w.heap.size + 1 ∨ k = w.heap.size + 1 + 1) w1 ((w1.setCell ⟨w.heap.size + 1, 0, none⟩ (.int .i64 x2)).setCell ⟨w.heap.size + 1 + 1, 0, none⟩ (.int .i64 x3)) from ((Kept.refl _ w1).setCell (w.heap.size + 1) 0 _ (Or.inl (Or.inr (Or.inl rfl)))).setCell (w.heap.size + 1 + 1) 0 _ (Or.inl (Or.inr (Or.inr rfl))))
    clear q2 q3 q4 f2 f3 f4 Z2 Z3 Z4
    generalize ((w1.setCell ⟨w.heap.size + 1, 0, none⟩ (.int .i64 x2)).setCell ⟨w.heap.size + 1 + 1, 0, none⟩ (.int .i64 x3)) = w2 at X2 X3 X4 XK ⊢
    have q2 := fun i => blk_cell X2.out i
    have q3 := blk_cell X3.out 0
    have q4 := blk_cell X4.out 0
    have f2 := fun i => blk_frozen X2.out i
    have f3 := blk_frozen X3.out 0
    have f4 := blk_frozen X4.out 0
    refine start_ (n := 6) (S := fun w' => w'.cell? ⟨w.heap.size + 1, 0, none⟩ = some (.int .i64 x2) ∧ w'.cell? ⟨w.heap.size + 1 + 1, 0, none⟩ = some (.int .i64 x3)) (ds := [5]) (Array.replicate 6 false) (by kernel_rfl) rfl rfl ⟨q3.trans rfl, q4.trans rfl⟩ (fun hHeld => ?_)
    ((refine rpure (i := 0) (N := some 16) (v := ?_) (a' := ?_) rfl rfl (by kernel_rfl) (fun c a w h => put_ok (by decide) c a w h) (Or.inl ⟨by rfl, ?_⟩) ?_ ?_); rotate_left; (· intro w'; go_simp; with_reducible rfl); rotate_left; (· (simp only [Act.put, List.setIfInBounds_toArray, List.set_cons_zero, List.set_cons_succ, i64_w, i32_w]; rfl)))
    ((refine rtake (i := 1) (N := some 17) (v := ?_) (a' := ?_) rfl rfl (by kernel_rfl) (fun c a w h => put_ok (by decide) c a w h) (Or.inl ⟨by rfl, ?_⟩) hHeld ?_ ?_); rotate_left; (· rintro w' ⟨s0, s1⟩; go_simp; with_reducible rfl); rotate_left; (· (simp only [Act.put, List.setIfInBounds_toArray, List.set_cons_zero, List.set_cons_succ, i64_w, i32_w]; rfl)))
    ((refine rtake (i := 2) (N := some 18) (v := ?_) (a' := ?_) rfl rfl (by kernel_rfl) (fun c a w h => put_ok (by decide) c a w h) (Or.inl ⟨by rfl, ?_⟩) hHeld ?_ ?_); rotate_left; (· rintro w' ⟨s0, s1⟩; go_simp; with_reducible rfl); rotate_left; (· (simp only [Act.put, List.setIfInBounds_toArray, List.set_cons_zero, List.set_cons_succ, i64_w, i32_w]; rfl)))
    refine rone (i := 3) (N := none) rfl rfl (by kernel_rfl) (by decide) (fun K hK => ?_)
    go_simp
    have Y2 := Aside0.mk (show (((((w2.setCell ⟨w.heap.size, 0, none⟩ (.int .i64 0)).setCell ⟨w.heap.size, 1, none⟩ (.string ⟨#[]⟩)).setCell ⟨w.heap.size, 2, none⟩ (.slice none 0 0)).setCell ⟨w.heap.size, 3, none⟩ (.int .i64 0)).drew).heap[w.heap.size]? = some (.cells zeroNd 58 (0, 0)) from (blk_set (blk_set (blk_set (blk_set X2.out 0 _) 1 _) 2 _) 3 _))
    have Y3 := Aside0.mk (show (((((w2.setCell ⟨w.heap.size, 0, none⟩ (.int .i64 0)).setCell ⟨w.heap.size, 1, none⟩ (.string ⟨#[]⟩)).setCell ⟨w.heap.size, 2, none⟩ (.slice none 0 0)).setCell ⟨w.heap.size, 3, none⟩ (.int .i64 0)).drew).heap[w.heap.size + 1]? = some (.cells #[.int .i64 x2] 3 (0, 0)) from (blk_setO (blk_setO (blk_setO (blk_setO X3.out (by omega)) (by omega)) (by omega)) (by omega)))
    have Y4 := Aside0.mk (show (((((w2.setCell ⟨w.heap.size, 0, none⟩ (.int .i64 0)).setCell ⟨w.heap.size, 1, none⟩ (.string ⟨#[]⟩)).setCell ⟨w.heap.size, 2, none⟩ (.slice none 0 0)).setCell ⟨w.heap.size, 3, none⟩ (.int .i64 0)).drew).heap[w.heap.size + 1 + 1]? = some (.cells #[.int .i64 x3] 31 (0, 0)) from (blk_setO (blk_setO (blk_setO (blk_setO X4.out (by omega)) (by omega)) (by omega)) (by omega)))
    have YK := Aside0.mk (show Kept (fun k => k = w.heap.size ∨ k = w.heap.size + 1 ∨ k = w.heap.size + 1 + 1) w1 (((((w2.setCell ⟨w.heap.size, 0, none⟩ (.int .i64 0)).setCell ⟨w.heap.size, 1, none⟩ (.string ⟨#[]⟩)).setCell ⟨w.heap.size, 2, none⟩ (.slice none 0 0)).setCell ⟨w.heap.size, 3, none⟩ (.int .i64 0)).drew) from (XK.out.trans (stored_kept w2 w.heap.size (w.heap.size + 1) (w.heap.size + 1 + 1) _ _ _ _) (fun _ _ q => q)).drew)
    clear q2 q3 q4 f2 f3 f4 X2 X3 X4 XK
    generalize (((((w2.setCell ⟨w.heap.size, 0, none⟩ (.int .i64 0)).setCell ⟨w.heap.size, 1, none⟩ (.string ⟨#[]⟩)).setCell ⟨w.heap.size, 2, none⟩ (.slice none 0 0)).setCell ⟨w.heap.size, 3, none⟩ (.int .i64 0)).drew) = w3 at Y2 Y3 Y4 YK ⊢
    have q2 := fun i => blk_cell Y2.out i
    have q3 := blk_cell Y3.out 0
    have q4 := blk_cell Y4.out 0
    have f2 := fun i => blk_frozen Y2.out i
    have f3 := blk_frozen Y3.out 0
    have f4 := blk_frozen Y4.out 0
    refine hK _ _ ⟨q3.trans rfl, q4.trans rfl⟩ (fun hHeld => ?_)
    clear hK K
    refine rone (i := 4) (N := none) rfl rfl (by kernel_rfl) (by decide) (fun K hK => ?_)
    go_simp
    have V2 := Aside0.mk (show (w3.setCell ⟨w.heap.size + 1, 0, none⟩ (.int .i64 x2)).heap[w.heap.size]? = some (.cells zeroNd 58 (0, 0)) from blk_setO Y2.out (by omega))
    have V3 := Aside0.mk (show (w3.setCell ⟨w.heap.size + 1, 0, none⟩ (.int .i64 x2)).heap[w.heap.size + 1]? = some (.cells #[.int .i64 x2] 3 (0, 0)) from blk_set Y3.out 0 _)
    have V4 := Aside0.mk (show (w3.setCell ⟨w.heap.size + 1, 0, none⟩ (.int .i64 x2)).heap[w.heap.size + 1 + 1]? = some (.cells #[.int .i64 x3] 31 (0, 0)) from blk_setO Y4.out (by omega))
    have VK := Aside0.mk (show Kept (fun k => k = w.heap.size ∨ k = w.heap.size + 1 ∨ k = w.heap.size + 1 + 1) w1 (w3.setCell ⟨w.heap.size + 1, 0, none⟩ (.int .i64 x2)) from YK.out.setCell (w.heap.size + 1) 0 _ (Or.inl (Or.inr (Or.inl rfl))))
    clear q2 q3 q4 f2 f3 f4 Y2 Y3 Y4 YK
    generalize (w3.setCell ⟨w.heap.size + 1, 0, none⟩ (.int .i64 x2)) = w4 at V2 V3 V4 VK ⊢
    have q4 := blk_cell V4.out 0
    have f4 := blk_frozen V4.out 0
    refine hK _ _ ⟨(blk_cell V3.out 0).trans rfl, q4.trans rfl⟩ (fun hHeld => ?_)
    clear hK K
    refine rlast (i := 5) (N := none) rfl rfl (by kernel_rfl) (by decide) (fun K hK => ?_)
    rw [if_pos (by rfl)]
    unfold Oper.wp
    go_simp
    refine hK _ _ (done_ (by kernel_rfl) ?_)
    clear hK K hHeld
    go_wp2_with (fail)
    have hfin := (VK.out.setCell (w.heap.size + 1 + 1) 0 (.int .i64 x3) (Or.inl (Or.inr (Or.inr rfl))))
    exact ⟨_, parse_results (b2 := w.heap.size) (b3 := w.heap.size + 1) (b4 := w.heap.size + 1 + 1) (n := zeroN) (A := none) (c := 0) (pos := x2) (why := x3) rfl rfl rfl (blk_setO V2.out (by omega)) (blk_setO V3.out (by omega)) (blk_set V4.out 0 _), parse_thrown (g1 := w.heap.size) HB1.out (Kept.refl _ w1) (Nat.le_refl _) hfin (by omega) (by omega) (by omega) hff⟩
end Go.Proofs.YtfgogfdbjbnlbaaDoor.PExpr
end
