/- Rows of bytes as texts; a number's digits. -/
import Derived.Test.YtecijnjnhdjokaaUtf
import Derived.Test.YtecijnjnhdjokaaPClockFx1
namespace Go.Proofs.Ytecijnjnhdjokaa.FNum
open Go.RowKit Go.Proofs.Ytecijnjnhdjokaa.PClockF Go.Proofs.Ytecijnjnhdjokaa.Utf Go.Proofs.YtecijnjnhdjokaaW.PrintWords Go.Proofs.YtecijnjnhdjokaaW.PrintLast Go.Proofs.YtecijnjnhdjokaaW.PrintMore
set_option linter.unusedVariables false
set_option linter.unusedSimpArgs false

theorem w64 (x : Int) (h1 : -9223372036854775808 ≤ x) (h2 : x ≤ 9223372036854775807) : wrap64 x = x := by unfold wrap64; omega
theorem u64w (x : Int) : IntKind.u64.wrap x = x % 18446744073709551616 := by simp [IntKind.wrap, IntKind.bits, IntKind.signed]
theorem u64i (x : Int) (h1 : 0 ≤ x) (h2 : x < 18446744073709551616) : IntKind.u64.wrap x = x := by rw [u64w]; omega
theorem td (x m : Int) (h : 0 ≤ x) : Int.tdiv x m = x / m := Int.tdiv_eq_ediv_of_nonneg h
theorem tm (x m : Int) (h : 0 ≤ x) : Int.tmod x m = x % m := Int.tmod_eq_emod_of_nonneg h
theorem within_eq (a m : Int) : clock_within.f a m = some (decide (0 ≤ a ∧ a ≤ m)) := by
  unfold clock_within.f
  by_cases h : a ≥ 0
  · rw [if_pos h]
    simp [show 0 ≤ a from h]
  · rw [if_neg h]
    simp [show ¬ 0 ≤ a from h]
/-- The parts of a span that is 0 or above. -/
theorem parts_eq (a : Int) (h0 : 0 ≤ a) (h1 : a ≤ 9223372036854775808) : clock_parts.f a = some (a / 3600000000, a / 60000000 % 60, a / 1000000 % 60, a % 1000000) := by
  unfold clock_parts.f
  rw [td _ _ h0, td _ _ h0, td _ _ h0, tm _ _ h0, u64i (a / 3600000000) (by omega) (by omega), u64i (a / 60000000) (by omega) (by omega), u64i (a / 1000000) (by omega) (by omega), tm _ _ (by omega), tm _ _ (by omega), w64 _ (by omega) (by omega), w64 _ (by omega) (by omega), w64 _ (by omega) (by omega), w64 _ (by omega) (by omega)]
/-- Bytes below 128. -/
def Asc (l : List Int) : Prop := ∀ x ∈ l, 0 ≤ x ∧ x < 128
theorem Asc.app {a b : List Int} (h : Asc a) (g : Asc b) : Asc (a ++ b) := fun x hx => (List.mem_append.1 hx).elim (h x) (g x)
theorem Asc.cons {x : Int} {b : List Int} (h : 0 ≤ x ∧ x < 128) (g : Asc b) : Asc (x :: b) := fun y hy => (List.mem_cons.1 hy).elim (fun e => e ▸ h) (g y)
theorem Asc.nil : Asc [] := fun x hx => by cases hx
theorem nums_app (a b : List Int) : strOfNums (a ++ b) = strOfNums a ++ strOfNums b := by
  apply ByteArray.ext
  rw [ByteArray.data_append]
  simp [strOfNums]
theorem nums_get (l : List Int) (i : Nat) (h : i < l.length) (hs : i < (strOfNums l).size) : (strOfNums l)[i]'hs = UInt8.ofNat (l[i]).toNat := by
  show (strOfNums l).data[i] = _
  simp [strOfNums]
theorem bt_nums (l : List Int) (i : Nat) (h : i < l.length) (h0 : 0 ≤ l[i] ∧ l[i] < 128) : bt (strOfNums l) (i : Int) = l[i] := by
  have hs : i < (strOfNums l).size := by rw [strOfNums_size]; exact h
  rw [bt_get _ _ hs, nums_get l i h hs]
  simp only [UInt8.toNat_ofNat']
  omega
theorem nums_ext (l : List Int) (e : Nat) : (strOfNums l).extract 0 e = strOfNums (l.take e) := by
  apply ByteArray.ext
  apply Array.toList_inj.1
  rw [ext_list]
  simp only [strOfNums_data, List.drop_zero, Nat.sub_zero, List.map_take]
theorem nums_drop (l : List Int) (e : Nat) : (strOfNums l).extract e (strOfNums l).size = strOfNums (l.drop e) := by
  apply ByteArray.ext
  apply Array.toList_inj.1
  rw [ext_list, strOfNums_size]
  simp only [strOfNums_data, List.map_drop]
  rw [List.take_of_length_le]
  simp
/-! Digits. -/
theorem dec_zero (k : Nat) (acc : List Int) : decL k 0 0 acc = acc := by
  cases k with
  | zero => rfl
  | succ k => simp [decL]
theorem dec_c (k n : Nat) (acc : List Int) (h : 0 < n) : decL k n 1 acc = decL k n 0 acc := by
  cases k with
  | zero => rfl
  | succ k => simp [decL, h]
theorem dec_len : ∀ (k n c : Nat) (acc : List Int), (decL k n c acc).length ≤ k + acc.length := by
  intro k
  induction k with
  | zero => intro n c acc; simp [decL]
  | succ k ih =>
    intro n c acc
    simp only [decL]
    split
    · have := ih (n / 10) (c - 1) ((48 + (n : Int) % 10) :: acc)
      simp only [List.length_cons] at this
      omega
    · omega
theorem dec_asc : ∀ (k n c : Nat) (acc : List Int), Asc acc → Asc (decL k n c acc) := by
  intro k
  induction k with
  | zero => intro n c acc h; exact h
  | succ k ih =>
    intro n c acc h
    simp only [decL]
    split
    · exact ih _ _ _ (Asc.cons (by omega) h)
    · exact h
theorem two_small (n : Nat) (h : n < 10) : decL 20 n 2 [] = 48 :: decL 20 n 1 [] := by
  rw [decL, if_pos (.inr (by decide)), decL, if_pos (.inr (by decide)), show n / 10 = 0 by omega]
  rw [dec_zero, decL, if_pos (.inr (by decide)), show n / 10 = 0 by omega, dec_zero]
  rfl
theorem two_big (n : Nat) (h : 10 ≤ n) : decL 20 n 2 [] = decL 20 n 1 [] := by
  have e1 : decL 20 n 2 [] = decL 19 (n / 10) 1 [48 + (n : Int) % 10] := by rw [decL, if_pos (.inr (by decide))]
  have e2 : decL 20 n 1 [] = decL 19 (n / 10) 0 [48 + (n : Int) % 10] := by rw [decL, if_pos (.inr (by decide))]
  rw [e1, e2, dec_c _ _ _ (by omega)]
theorem two_digits (n : Nat) (h : n < 100) : decL 20 n 2 [] = [48 + ((n / 10 : Nat) : Int) % 10, 48 + (n : Int) % 10] := by
  rw [decL, if_pos (.inr (by decide)), decL, if_pos (.inr (by decide)), show n / 10 / 10 = 0 by omega, dec_zero]
/-- Six digits of a number below a million. -/
def sixL (n : Nat) : List Int := [48 + ((n / 100000 : Nat) : Int) % 10, 48 + ((n / 10000 : Nat) : Int) % 10, 48 + ((n / 1000 : Nat) : Int) % 10, 48 + ((n / 100 : Nat) : Int) % 10, 48 + ((n / 10 : Nat) : Int) % 10, 48 + (n : Int) % 10]
theorem six (n : Nat) (h : n < 1000000) : decL 20 n 6 [] = sixL n := by
  rw [decL, if_pos (.inr (by decide)), decL, if_pos (.inr (by decide)), decL, if_pos (.inr (by decide)), decL, if_pos (.inr (by decide)), decL, if_pos (.inr (by decide)), decL, if_pos (.inr (by decide))]
  simp only [Nat.div_div_eq_div_mul, Nat.reduceMul]
  rw [show n / 1000000 = 0 by omega, dec_zero]
  rfl
theorem seven (n : Nat) (h : n < 1000000) : decL 20 (1000000 + n) 1 [] = 49 :: sixL n := by
  rw [decL, if_pos (.inr (by decide)), decL, if_pos (.inl (by omega)), decL, if_pos (.inl (by omega)), decL, if_pos (.inl (by omega)), decL, if_pos (.inl (by omega)), decL, if_pos (.inl (by omega)), decL, if_pos (.inl (by omega))]
  simp only [Nat.div_div_eq_div_mul, Nat.reduceMul]
  rw [show (1000000 + n) / 10000000 = 0 by omega, dec_zero]
  simp only [sixL]
  congr 1
  · omega
  · congr 1
    · omega
    · congr 1
      · omega
      · congr 1
        · omega
        · congr 1
          · omega
          · congr 1
            · omega
            · congr 1
              omega
theorem digits_eq (n : Int) (c : Int) (h0 : 0 ≤ n) (h1 : n < 18446744073709551616) (h2 : 0 ≤ c ∧ c ≤ 20) : clock_digits.f n c = some (strOfNums (decL 20 n.toNat c.toNat [])) := by
  unfold clock_digits.f
  rw [if_pos ⟨h0, h1, h2⟩]
theorem two_pos (n : Int) (h0 : 0 ≤ n) (h1 : n ≤ 9223372036854775807) : clock_Two.f n = some (strOfNums (decL 20 n.toNat 2 [])) := by
  unfold clock_Two.f
  rw [if_pos h0, u64i n h0 (by omega), digits_eq n 2 h0 (by omega) (by decide)]
  rfl
end Go.Proofs.Ytecijnjnhdjokaa.FNum
