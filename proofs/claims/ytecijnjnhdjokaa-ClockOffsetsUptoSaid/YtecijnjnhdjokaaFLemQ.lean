/- The reference's digits, two digits and fraction. -/
import Derived.Test.YtecijnjnhdjokaaFLemN
import Derived.Test.YtecijnjnhdjokaaPClockFx5
namespace Go.Proofs.Ytecijnjnhdjokaa.FNum
open Go.RowKit Go.Proofs.Ytecijnjnhdjokaa.PClockF Go.Proofs.Ytecijnjnhdjokaa.Utf Go.Proofs.YtecijnjnhdjokaaW.PrintWords Go.Proofs.YtecijnjnhdjokaaW.PrintLast Go.Proofs.YtecijnjnhdjokaaW.PrintMore
set_option linter.unusedVariables false
set_option linter.unusedSimpArgs false
theorem rd_at (l : List Int) (i : Nat) (h : i < l.length) : rd l (i : Int) = l[i] := by
  unfold rd
  rw [Int.toNat_natCast, List.getD_eq_getElem?_getD, List.getElem?_eq_getElem h]
  rfl
/-- The reference turns a row round. -/
theorem turn : ∀ (j : Nat) (x4 x5 : List Int), j ≤ x4.length → x5.length + j ≤ 100 → Ev (fun k => computusref03_Digits.l1 k x4 x5 ((j : Int) - 1)) (strOfNums (x5 ++ (x4.take j).reverse)) := by
  intro j
  induction j with
  | zero =>
    intro x4 x5 h0 h1
    refine Ev.step (f := fun _ => some (strOfNums (x5 ++ (x4.take 0).reverse))) (fun k => ?_) (Ev.now _)
    rw [computusref03_Digits.l1, if_neg (by omega)]
    simp
  | succ j ih =>
    intro x4 x5 h0 h1
    have hh := ih x4 (x5 ++ [x4[j]]) (by omega) (by rw [List.length_append]; simp; omega)
    have e : x5 ++ [x4[j]] ++ (x4.take j).reverse = x5 ++ (x4.take (j + 1)).reverse := by
      rw [← List.take_append_getElem (h := by omega), List.reverse_append, List.append_assoc]
      rfl
    rw [e] at hh
    refine Ev.step (fun k => ?_) hh
    rw [computusref03_Digits.l1, if_pos (by omega), if_pos (by omega), if_pos (by omega), if_pos (by omega)]
    rw [show (((j + 1 : Nat) : Int) - 1) = (j : Int) by omega, rd_at x4 j (by omega), w64 _ (by omega) (by omega)]
theorem turn_all (l : List Int) (h : l.length ≤ 100) : Ev (fun k => computusref03_Digits.j2 k l) (strOfNums l.reverse) := by
  have hh := turn l.length l [] (Nat.le_refl _) (by simpa using h)
  rw [List.nil_append, List.take_length] at hh
  refine Ev.step (fun k => ?_) hh
  rw [computusref03_Digits.j2, w64 _ (by omega) (by omega)]
/-- The sign ahead. -/
def sg (x0 : Int) (l : List Int) : List Int := if x0 < 0 then 45 :: l else l
theorem dig (x0 : Int) : ∀ (d n : Nat) (acc : List Int), n < 10 ^ (d + 1) → n < 18446744073709551616 → acc.length + d ≤ 40 → Ev (fun k => computusref03_Digits.l0 k x0 (n : Int) acc.reverse) (strOfNums (sg x0 (decL (d + 1) n 1 acc))) := by
  intro d
  induction d with
  | zero =>
    intro n acc h hb hl
    have hn : n < 10 := by simpa using h
    have e : decL 1 n 1 acc = (48 + (n : Int)) :: acc := by
      rw [decL, if_pos (.inr (by decide))]
      rw [show n / 10 = 0 by omega, dec_zero, show (n : Int) % 10 = n by omega]
    have hv : (IntKind.u64.wrap (48 + (n : Int))) % 256 = 48 + (n : Int) := by rw [u64i _ (by omega) (by omega)]; omega
    rw [Nat.zero_add, e]
    have hr : (acc.reverse ++ [48 + (n : Int)]) = ((48 + (n : Int)) :: acc).reverse := by rw [List.reverse_cons]
    unfold sg
    by_cases hx : x0 < 0
    · rw [if_pos hx]
      have ht := turn_all ((48 + (n : Int)) :: acc).reverse.reverse.reverse (by simp; omega)
      have ht2 := turn_all (((48 + (n : Int)) :: acc).reverse ++ [45]) (by simp; omega)
      rw [List.reverse_append, List.reverse_reverse] at ht2
      refine Ev.step (fun k => ?_) ht2
      rw [computusref03_Digits.l0, if_neg (by omega), if_pos (by rw [List.length_reverse]; omega), hv, hr, Option.bind_some, if_pos hx, if_pos (by rw [List.length_reverse, List.length_cons]; omega)]
    · rw [if_neg hx]
      have ht2 := turn_all (((48 + (n : Int)) :: acc).reverse) (by simp; omega)
      rw [List.reverse_reverse] at ht2
      refine Ev.step (fun k => ?_) ht2
      rw [computusref03_Digits.l0, if_neg (by omega), if_pos (by rw [List.length_reverse]; omega), hv, hr, Option.bind_some, if_neg hx]
  | succ d ih =>
    intro n acc h hb hl
    by_cases hn : n < 10
    · have h2 := ih n acc (Nat.lt_of_lt_of_le hn (by rw [Nat.pow_succ]; have := Nat.pow_pos (a := 10) (n := d) (by decide); omega)) hb (by omega)
      have e : ∀ m, decL (m + 1) n 1 acc = (48 + (n : Int) % 10) :: acc := by
        intro m
        rw [decL, if_pos (.inr (by decide)), show n / 10 = 0 by omega, dec_zero]
      rw [e] at h2 ⊢
      exact h2
    · have h2 := ih (n / 10) ((48 + (n : Int) % 10) :: acc) (by rw [Nat.pow_succ] at h; omega) (by omega) (by simp; omega)
      have e : decL (d + 1 + 1) n 1 acc = decL (d + 1) (n / 10) 1 ((48 + (n : Int) % 10) :: acc) := by
        have e1 : decL (d + 1 + 1) n 1 acc = decL (d + 1) (n / 10) 0 ((48 + (n : Int) % 10) :: acc) := by rw [decL, if_pos (.inl (by omega))]
        rw [e1, dec_c (d + 1) (n / 10) _ (by omega)]
      rw [e]
      refine Ev.step (fun k => ?_) h2
      rw [computusref03_Digits.l0, if_pos (by omega), if_pos (by rw [List.length_reverse]; omega), List.reverse_cons]
      rw [td _ _ (by omega), tm _ _ (by omega), u64i ((n : Int) / 10) (by omega) (by omega), u64i (48 + (n : Int) % 10) (by omega) (by omega), show (48 + (n : Int) % 10) % 256 = 48 + (n : Int) % 10 by omega]
      rw [Int.natCast_ediv]
      rfl
theorem digits_ev (n : Int) (h1 : -9223372036854775808 ≤ n) (h2 : n ≤ 9223372036854775807) : Ev (fun k => computusref03_Digits.f k n) (strOfNums (sg n (decL 20 n.natAbs 1 []))) := by
  have hd := dig n 19 n.natAbs [] (by have : (10 : Nat) ^ (19 + 1) = 100000000000000000000 := by decide
                                      omega) (by omega) (by decide)
  have hj : Ev (fun k => computusref03_Digits.j0 k n (n.natAbs : Int)) (strOfNums (sg n (decL 20 n.natAbs 1 []))) := Ev.step (fun k => by rw [computusref03_Digits.j0]; rfl) hd
  refine Ev.congr (fun k => ?_) hj
  unfold computusref03_Digits.f
  by_cases hn : n < 0
  · rw [if_pos hn, u64w, u64w, show (-(n % 18446744073709551616)) % 18446744073709551616 = (n.natAbs : Int) by omega]
  · rw [if_neg hn, u64w, show n % 18446744073709551616 = (n.natAbs : Int) by omega]
theorem neg_two (n : Int) (h1 : -9223372036854775808 ≤ n) (h2 : n < 0) : clock_Two.f n = some (strOfNums (45 :: decL 20 n.natAbs 2 [])) := by
  unfold clock_Two.f
  rw [if_neg (by omega)]
  have d1 := dec_len 20 n.natAbs 2 []
  simp only [List.length_nil] at d1
  have hc : (45 :: decL 20 n.natAbs 2 [] : List Int) = [45] ++ decL 20 n.natAbs 2 [] := rfl
  rw [hc, nums_app]
  by_cases hm : n = -9223372036854775808
  · have e : num_Neg.f n = some (0, 10) := by rw [hm]; decide +kernel
    rw [e, Option.bind_some, if_neg (by decide), digits_eq 9223372036854775808 2 (by decide) (by decide) (by decide), Option.bind_some]
    rw [show (9223372036854775808 : Int).toNat = n.natAbs by omega, show (2 : Int).toNat = 2 from rfl, if_pos (by rw [strOfNums_size]; omega)]
    rfl
  · have e : num_Neg.f n = some (-n, 0) := by
      unfold num_Neg.f num_Sub.f
      rw [w64 (0 - n) (by omega) (by omega)]
      rw [decide_eq_false (show ¬ (0 - n < 0) by omega), decide_eq_false (show ¬ (n > 0) by omega), if_neg (by decide), Option.bind_some]
      rw [show 0 - n = -n by omega]
    rw [e, Option.bind_some, if_pos rfl, u64i (-n) (by omega) (by omega), digits_eq (-n) 2 (by omega) (by omega) (by decide), Option.bind_some]
    rw [show (-n).toNat = n.natAbs by omega, show (2 : Int).toNat = 2 from rfl, if_pos (by rw [strOfNums_size]; omega)]
    rfl
theorem two_eq (n : Int) (h1 : -9223372036854775808 ≤ n) (h2 : n ≤ 9223372036854775807) : ∃ l, l.length ≤ 21 ∧ clock_Two.f n = some (strOfNums l) ∧ Ev (fun k => computusref03_Two.f k n) (strOfNums l) := by
  have d1 := dec_len 20 n.natAbs 1 []
  have d2 := dec_len 20 n.natAbs 2 []
  simp only [List.length_nil] at d1 d2
  have hd := digits_ev n h1 h2
  have hdn : n < 0 → -10 < n → Ev (fun k => computusref03_Digits.f k (-n)) (strOfNums (decL 20 n.natAbs 1 [])) := fun g1 g2 => by
    have h := digits_ev (-n) (by omega) (by omega)
    rw [Int.natAbs_neg] at h
    unfold sg at h
    rw [if_neg (by omega)] at h
    exact h
  unfold sg at hd
  by_cases hn : n < 0
  · rw [if_pos hn] at hd
    refine ⟨45 :: decL 20 n.natAbs 2 [], by simp; omega, neg_two n h1 hn, ?_⟩
    by_cases ht : n > -10
    · have e : (45 :: decL 20 n.natAbs 2 [] : List Int) = [45, 48] ++ decL 20 n.natAbs 1 [] := by rw [two_small _ (by omega)]; rfl
      rw [e, nums_app]
      refine Ev.congr (f := fun k => computusref03_Two.j0 k n false) (fun k => by unfold computusref03_Two.f; rw [if_neg (by omega)]) ?_
      refine Ev.step (f := fun k => computusref03_Two.j1 k n true) (fun k => by rw [computusref03_Two.j0, if_neg Bool.false_ne_true, if_pos hn, decide_eq_true ht]) ?_
      refine Ev.step (f := fun k => (computusref03_Digits.f k (-n)).bind fun t132 => (if 2 + t132.size ≤ 9223372036854775807 then (some ((⟨#[45, 48]⟩ : ByteArray) ++ t132)) else (none))) (fun k => by rw [computusref03_Two.j1, if_pos rfl, w64 _ (by omega) (by omega)]) ?_
      refine Ev.bind (hdn hn (by omega)) (Ev.congr (fun k => ?_) (Ev.now _))
      rw [if_pos (by rw [strOfNums_size]; omega)]
      rfl
    · have e : decL 20 n.natAbs 2 [] = decL 20 n.natAbs 1 [] := two_big _ (by omega)
      rw [e]
      refine Ev.congr (f := fun k => computusref03_Two.j0 k n false) (fun k => by unfold computusref03_Two.f; rw [if_neg (by omega)]) ?_
      refine Ev.step (f := fun k => computusref03_Two.j1 k n false) (fun k => by rw [computusref03_Two.j0, if_neg Bool.false_ne_true, if_pos hn, decide_eq_false ht]) ?_
      refine Ev.step (f := fun k => (computusref03_Digits.f k n).bind fun t133 => some t133) (fun k => by rw [computusref03_Two.j1, if_neg Bool.false_ne_true]) ?_
      exact Ev.bind hd (Ev.now _)
  · rw [if_neg hn] at hd
    have e0 := two_pos n (by omega) h2
    rw [show n.toNat = n.natAbs by omega] at e0
    refine ⟨decL 20 n.natAbs 2 [], by omega, e0, ?_⟩
    by_cases ht : n < 10
    · have e : decL 20 n.natAbs 2 [] = [48] ++ decL 20 n.natAbs 1 [] := by rw [two_small _ (by omega)]; rfl
      rw [e, nums_app]
      refine Ev.congr (f := fun k => computusref03_Two.j0 k n true) (fun k => by unfold computusref03_Two.f; rw [if_pos (by omega), decide_eq_true ht]) ?_
      refine Ev.step (f := fun k => (computusref03_Digits.f k n).bind fun t131 => (if 1 + t131.size ≤ 9223372036854775807 then (some ((⟨#[48]⟩ : ByteArray) ++ t131)) else (none))) (fun k => by rw [computusref03_Two.j0, if_pos rfl]) ?_
      refine Ev.bind hd (Ev.congr (fun k => ?_) (Ev.now _))
      rw [if_pos (by rw [strOfNums_size]; omega)]
      rfl
    · have e : decL 20 n.natAbs 2 [] = decL 20 n.natAbs 1 [] := two_big _ (by omega)
      rw [e]
      refine Ev.congr (f := fun k => computusref03_Two.j0 k n false) (fun k => by unfold computusref03_Two.f; rw [if_pos (by omega), decide_eq_false ht]) ?_
      refine Ev.step (f := fun k => computusref03_Two.j1 k n false) (fun k => by rw [computusref03_Two.j0, if_neg Bool.false_ne_true, if_neg (by omega)]) ?_
      refine Ev.step (f := fun k => (computusref03_Digits.f k n).bind fun t133 => some t133) (fun k => by rw [computusref03_Two.j1, if_neg Bool.false_ne_true]) ?_
      exact Ev.bind hd (Ev.now _)
end Go.Proofs.Ytecijnjnhdjokaa.FNum
