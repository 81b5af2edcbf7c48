/- Of two times the later one's text comes behind. -/
import Derived.Test.YtecijnjnhdjokaaPureClockTexts
import Derived.Test.YtecijnjnhdjokaaPClockx6
namespace Go.Proofs.Ytecijnjnhdjokaa.Pure
open Go.RowKit Go.Proofs.Ytecijnjnhdjokaa.PClock Go.Proofs.Ytecijnjnhdjokaa.Num Go.Proofs.Ytecijnjnhdjokaa.Utf Go.Proofs.YtecijnjnhdjokaaW.PrintWords Go.Proofs.YtecijnjnhdjokaaW.PrintLast Go.Proofs.YtecijnjnhdjokaaW.PrintMore
set_option linter.unusedSimpArgs false
/-- One row of numbers ahead of another. -/
def lessL : List Int → List Int → Bool
  | _, [] => false
  | [], _ :: _ => true
  | a :: x, b :: y => decide (a < b) || (decide (a = b) && lessL x y)
theorem less_map : ∀ x y : List Int, Asc x → Asc y → Op.bytesLess (x.map fun n => UInt8.ofNat n.toNat) (y.map fun n => UInt8.ofNat n.toNat) = lessL x y := by
  intro x
  induction x with
  | nil => intro y _ _; cases y <;> rfl
  | cons a x ih =>
    intro y hx hy
    cases y with
    | nil => rfl
    | cons b y =>
      have ha := hx a (by simp)
      have hb := hy b (by simp)
      simp only [List.map_cons, Op.bytesLess, lessL]
      rw [ih y (fun i hi => hx i (by simp [hi])) (fun i hi => hy i (by simp [hi]))]
      have h1 : decide (UInt8.ofNat a.toNat < UInt8.ofNat b.toNat) = decide (a < b) := by
        rw [decide_eq_decide, UInt8.lt_iff_toNat_lt, UInt8.toNat_ofNat', UInt8.toNat_ofNat']
        omega
      have h2 : (UInt8.ofNat a.toNat == UInt8.ofNat b.toNat) = decide (a = b) := by
        rw [Bool.eq_iff_iff, beq_iff_eq, decide_eq_true_eq]
        constructor
        · intro h
          have := congrArg UInt8.toNat h
          rw [UInt8.toNat_ofNat', UInt8.toNat_ofNat'] at this
          omega
        · rintro rfl; rfl
      rw [h1, h2]
theorem ord8 (a b c d e f a' b' c' d' e' f' : Int) (h1 : 0 ≤ a ∧ 0 ≤ b ∧ b ≤ 9 ∧ 0 ≤ c ∧ c ≤ 5 ∧ 0 ≤ d ∧ d ≤ 9 ∧ 0 ≤ e ∧ e ≤ 5 ∧ 0 ≤ f ∧ f ≤ 9) (h2 : 0 ≤ a' ∧ 0 ≤ b' ∧ b' ≤ 9 ∧ 0 ≤ c' ∧ c' ≤ 5 ∧ 0 ≤ d' ∧ d' ≤ 9 ∧ 0 ≤ e' ∧ e' ≤ 5 ∧ 0 ≤ f' ∧ f' ≤ 9)
    (h : (10 * a + b) * 3600 + (10 * c + d) * 60 + (10 * e + f) ≤ (10 * a' + b') * 3600 + (10 * c' + d') * 60 + (10 * e' + f')) :
    lessL [48 + a', 48 + b', 58, 48 + c', 48 + d', 58, 48 + e', 48 + f'] [48 + a, 48 + b, 58, 48 + c, 48 + d, 58, 48 + e, 48 + f] = false := by
  cases hr : lessL [48 + a', 48 + b', 58, 48 + c', 48 + d', 58, 48 + e', 48 + f'] [48 + a, 48 + b, 58, 48 + c, 48 + d, 58, 48 + e, 48 + f] with
  | false => rfl
  | true =>
    exfalso
    simp only [lessL, Bool.or_eq_true, Bool.and_eq_true, decide_eq_true_eq, Bool.false_eq_true, and_false, or_false, Int.lt_irrefl, false_or, true_and] at hr
    omega
/-- A time's first eight signs. -/
def head8 (t : Int) : List Int := [48 + t / 3600000000 / 10 % 10, 48 + t / 3600000000 % 10, 58, 48 + t / 60000000 % 60 / 10 % 10, 48 + t / 60000000 % 60 % 10, 58, 48 + t / 1000000 % 60 / 10 % 10, 48 + t / 1000000 % 60 % 10]
theorem text8 (t : Int) (h0 : 0 ≤ t) (h1 : t ≤ 86400000000) : ∃ l, clock_text.f t = some (strOfNums (head8 t ++ l)) := by
  obtain ⟨l, h2, _, _, _⟩ := text_some t h0 (by omega)
  refine ⟨l, ?_⟩
  have d2 : ∀ n : Int, 0 ≤ n → n < 100 → decL 20 n.toNat 2 [] = [48 + n / 10 % 10, 48 + n % 10] := by
    intro n g0 g1
    rw [two_digits _ (by omega)]
    obtain ⟨k, rfl⟩ : ∃ k : Nat, n = (k : Int) := ⟨n.toNat, by omega⟩
    rw [Int.toNat_natCast, Int.natCast_ediv]
    rfl
  rw [h2, d2 _ (by omega) (by omega), d2 _ (by omega) (by omega), d2 _ (by omega) (by omega)]
  rfl
theorem head_asc (t : Int) : Asc (head8 t) := by
  intro x hx
  simp only [head8, List.mem_cons, List.not_mem_nil, or_false] at hx
  omega
theorem head_less (a b : Int) (h0 : 0 ≤ a) (h1 : a < b) (h2 : b ≤ 86400000000) : lessL (head8 b) (head8 a) = false := by
  refine ord8 _ _ _ _ _ _ _ _ _ _ _ _ (by omega) (by omega) ?_
  have e1 : ∀ t : Int, 0 ≤ t → t ≤ 86400000000 → (10 * (t / 3600000000 / 10 % 10) + t / 3600000000 % 10) * 3600 + (10 * (t / 60000000 % 60 / 10 % 10) + t / 60000000 % 60 % 10) * 60 + (10 * (t / 1000000 % 60 / 10 % 10) + t / 1000000 % 60 % 10) = t / 1000000 := by
    intro t g0 g1
    omega
  rw [e1 a h0 (by omega), e1 b (by omega) h2]
  omega
theorem order_ev (a b : Int) (h0 : 0 ≤ a) (h1 : a < b) (h2 : b ≤ 86400000000) (x y : ByteArray) (hx : clock_text.f a = some x) (hy : clock_text.f b = some y) : Ev (fun k => computuslaw03_ClockOrder.j0 k x y false) true := by
  have hne : x ≠ y := by
    rintro rfl
    obtain ⟨k1, g1⟩ := read_text a h0 (by omega) _ hx
    obtain ⟨k2, g2⟩ := read_text b (by omega) h2 _ hy
    have e := Option.some.inj ((g1 (max k1 k2) (Nat.le_max_left _ _)).symm.trans (g2 (max k1 k2) (Nat.le_max_right _ _)))
    have := congrArg Prod.fst e
    simp only at this
    omega
  obtain ⟨l, e1⟩ := text8 a h0 (by omega)
  obtain ⟨m, e2⟩ := text8 b (by omega) h2
  obtain rfl := Option.some.inj (hx.symm.trans e1)
  obtain rfl := Option.some.inj (hy.symm.trans e2)
  have s1 : (strOfNums (head8 a ++ l)).size = 8 + l.length := by rw [strOfNums_size, List.length_append]; rfl
  have s2 : (strOfNums (head8 b ++ m)).size = 8 + m.length := by rw [strOfNums_size, List.length_append]; rfl
  have x1 : ∀ (t : Int) (q : List Int), (strOfNums (head8 t ++ q)).extract 0 8 = strOfNums (head8 t) := by
    intro t q
    rw [nums_ext, List.take_append_of_le_length (Nat.le_refl 8)]
    rfl
  have tl : ∀ p : List Int, (strOfNums p).toList = p.map fun n => UInt8.ofNat n.toNat := by
    intro p
    rw [← strOfNums_data]
    exact ByteArray.toList_eq _
  have hlt : Op.bytesLess (((strOfNums (head8 b ++ m)).extract 0 8).toList) (((strOfNums (head8 a ++ l)).extract 0 8).toList) = false := by
    rw [x1, x1, tl, tl, less_map _ _ (head_asc _) (head_asc _)]
    exact head_less a b h0 h1 h2
  have hne2 : ¬ (strOfNums (head8 a ++ l)).toList = (strOfNums (head8 b ++ m)).toList := by
    intro h
    exact hne ((str_eq_iff _ _).1 (beq_iff_eq.2 h))
  refine Ev.step (f := fun k => (computuslaw03_known.f k).bind fun t => some t) (fun k => ?_) (Ev.bind known_ev (Ev.now true))
  rw [computuslaw03_ClockOrder.j0, if_neg Bool.false_ne_true, if_pos (by rw [s1]; omega), if_pos (by rw [s2]; omega), if_pos (by decide), if_pos (by rw [s1]; omega), if_pos (by rw [s2]; omega), hlt, if_neg Bool.false_ne_true, if_neg hne2]
theorem ClockOrder : computuslaw03_ClockOrder.Pure := by
  intro a b _ _
  have hk : ∀ x y : ByteArray, Ev (fun k => computuslaw03_ClockOrder.j0 k x y true) true := fun x y =>
    Ev.step (f := fun k => (computuslaw03_known.f k).bind fun t => some t) (fun k => by rw [computuslaw03_ClockOrder.j0, if_pos rfl]) (Ev.bind known_ev (Ev.now true))
  refine Ev.rounds (r := true) ?_
  unfold computuslaw03_ClockOrder.f
  by_cases ha : 0 ≤ a ∧ a ≤ 86400000000
  · obtain ⟨x, hx⟩ := text8 a ha.1 ha.2
    by_cases hb : 0 ≤ b ∧ b ≤ 86400000000
    · obtain ⟨y, hy⟩ := text8 b hb.1 hb.2
      simp only [text_in a ha _ hx, text_in b hb _ hy, Option.bind_some, if_true]
      by_cases hab : a ≥ b
      · rw [decide_eq_true hab]
        exact hk _ _
      · rw [decide_eq_false hab]
        exact order_ev a b ha.1 (by omega) hb.2 _ _ hx hy
    · simp only [text_in a ha _ hx, (text_out b hb).1, Option.bind_some, if_true]
      exact Ev.congr (fun k => if_neg (by decide)) (hk _ _)
  · by_cases hb : 0 ≤ b ∧ b ≤ 86400000000
    · obtain ⟨y, hy⟩ := text8 b hb.1 hb.2
      simp only [(text_out a ha).1, text_in b hb _ hy, Option.bind_some]
      exact Ev.congr (fun k => if_neg (by decide)) (hk _ _)
    · simp only [(text_out a ha).1, (text_out b hb).1, Option.bind_some]
      exact Ev.congr (fun k => if_neg (by decide)) (hk _ _)
end Go.Proofs.Ytecijnjnhdjokaa.Pure
