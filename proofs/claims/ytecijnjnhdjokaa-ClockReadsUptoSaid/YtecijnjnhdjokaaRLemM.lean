/- A fraction; a number as the reference writes it. -/
import Derived.Test.YtecijnjnhdjokaaRLemN
namespace Go.Proofs.Ytecijnjnhdjokaa.RNum
open Go.RowKit Go.Proofs.Ytecijnjnhdjokaa.PClockR Go.Proofs.Ytecijnjnhdjokaa.Utf Go.Proofs.YtecijnjnhdjokaaW.PrintWords Go.Proofs.YtecijnjnhdjokaaW.PrintLast Go.Proofs.YtecijnjnhdjokaaW.PrintMore
set_option linter.unusedVariables false
set_option linter.unusedSimpArgs false

/-- Behind which byte no sign but 0 stands, on a row. -/
def fracL : List Int → Int → Int → Int
  | [], _, e => e
  | b :: t, p, e => fracL t (p + 1) (if b = 48 then e else p + 1)
theorem frac_run : ∀ (rest pre : List Int) (e : Int), Asc (pre ++ rest) → fracLoop (strOfNums (pre ++ rest)) (rest.length + 1) pre.length e = some (fracL rest pre.length e) := by
  intro rest
  induction rest with
  | nil =>
    intro pre e h
    simp only [fracLoop, List.length_nil]
    rw [if_neg (by rw [strOfNums_size]; simp)]
    rfl
  | cons b t ih =>
    intro pre e h
    have hl : pre.length < (pre ++ b :: t).length := by simp
    have hg : (pre ++ b :: t)[pre.length] = b := by simp
    have hb := h b (by simp)
    have e1 : bt (strOfNums (pre ++ b :: t)) (pre.length : Int) = b := by rw [bt_nums _ _ hl (by rw [hg]; exact hb), hg]
    rw [List.length_cons, fracLoop, if_pos (by rw [strOfNums_size]; exact hl), e1, if_pos hb.2]
    have hh := ih (pre ++ [b]) (if b = 48 then e else (pre.length : Int) + 1) (by rw [List.append_assoc]; exact h)
    rw [List.append_assoc, List.length_append] at hh
    simp only [List.singleton_append, List.length_singleton] at hh
    rw [hh]
    simp only [fracL]
    rw [Int.natCast_add]
    rfl
theorem fracL_app : ∀ (a b : List Int) (p e : Int), fracL (a ++ b) p e = fracL b (p + a.length) (fracL a p e) := by
  intro a
  induction a with
  | nil => intro b p e; simp [fracL]
  | cons x t ih =>
    intro b p e
    simp only [List.cons_append, fracL]
    rw [ih, List.length_cons]
    congr 1
    omega
theorem fracL_rep : ∀ (z : Nat) (p e : Int), fracL (List.replicate z 48) p e = e := by
  intro z
  induction z with
  | zero => intro p e; rfl
  | succ z ih =>
    intro p e
    rw [List.replicate_succ]
    simp only [fracL, if_true]
    exact ih _ _
theorem decomp : ∀ l : List Int, (∀ x ∈ l, x = 48) ∨ ∃ a d z, d ≠ 48 ∧ l = a ++ d :: List.replicate z 48 := by
  intro l
  induction l with
  | nil => exact .inl (fun x h => by cases h)
  | cons x t ih =>
    rcases ih with h | ⟨a, d, z, hd, e⟩
    · by_cases hx : x = 48
      · exact .inl (fun y hy => (List.mem_cons.1 hy).elim (fun e => e.trans hx) (h y))
      · exact .inr ⟨[], x, t.length, hx, by rw [List.nil_append, ← List.eq_replicate_of_mem h]⟩
    · exact .inr ⟨x :: a, d, z, hd, by rw [e]; rfl⟩
theorem fracL_at (a : List Int) (d : Int) (z : Nat) (hd : d ≠ 48) : fracL (a ++ d :: List.replicate z 48) 0 0 = (a.length : Int) + 1 := by
  rw [fracL_app]
  simp only [fracL]
  rw [fracL_rep, if_neg hd]
  omega
theorem six_asc (n : Nat) : Asc (sixL n) := by
  intro x hx
  simp only [sixL, List.mem_cons, List.not_mem_nil, or_false] at hx
  omega
theorem six_some (n : Nat) (h0 : 0 < n) (h : n < 1000000) : ∃ a d z, d ≠ 48 ∧ sixL n = a ++ d :: List.replicate z 48 := by
  rcases decomp (sixL n) with h | h
  · exfalso
    simp only [sixL, List.mem_cons, List.not_mem_nil, or_false, forall_eq_or_imp, forall_eq] at h
    omega
  · exact h
theorem fraction_out (n : Int) (h : n ≤ 0 ∨ 999999 < n) : clock_Fraction.f n = some ⟨#[]⟩ := by unfold clock_Fraction.f; rw [if_pos h]
theorem fraction_in (n : Int) (h0 : 0 < n) (h1 : n ≤ 999999) (a : List Int) (d : Int) (z : Nat) (hd : d ≠ 48) (hs : sixL n.toNat = a ++ d :: List.replicate z 48) : clock_Fraction.f n = some (strOfNums (46 :: (a ++ [d]))) := by
  unfold clock_Fraction.f
  rw [if_neg (by omega), digits_eq n 6 (by omega) (by omega) (by decide)]
  rw [show (6 : Int).toNat = 6 from rfl, six n.toNat (by omega), Option.bind_some]
  have hr := frac_run (sixL n.toNat) [] 0 (six_asc _)
  simp only [List.nil_append, List.length_nil, Int.natCast_zero] at hr
  rw [strOfNums_size, hr, hs, fracL_at _ _ _ hd, Option.bind_some]
  have hl : (a ++ d :: List.replicate z 48).length = 6 := by rw [← hs]; rfl
  rw [hl]
  have ha : a.length + 1 + z = 6 := by
    rw [List.length_append, List.length_cons, List.length_replicate] at hl
    omega
  rw [if_pos (by omega), nums_ext]
  have ht : (a ++ d :: List.replicate z 48).take ((a.length : Int) + 1).toNat = a ++ [d] := by
    rw [show ((a.length : Int) + 1).toNat = a.length + 1 by omega, List.take_append, List.take_of_length_le (Nat.le_succ _), show a.length + 1 - a.length = 1 by omega]
    rfl
  rw [ht, show (46 :: (a ++ [d]) : List Int) = [46] ++ (a ++ [d]) from rfl, nums_app [46]]
  rfl
theorem fraction_some (n : Int) : ∃ l, clock_Fraction.f n = some (strOfNums l) ∧ l.length ≤ 7 ∧ Asc l := by
  by_cases h : n ≤ 0 ∨ 999999 < n
  · exact ⟨[], fraction_out n h, by decide, Asc.nil⟩
  · obtain ⟨a, d, z, hd, hs⟩ := six_some n.toNat (by omega) (by omega)
    refine ⟨_, fraction_in n (by omega) (by omega) a d z hd hs, ?_, ?_⟩
    · have hl : (a ++ d :: List.replicate z 48).length = 6 := by rw [← hs]; rfl
      rw [List.length_append, List.length_cons, List.length_replicate] at hl
      simp
      omega
    · have := six_asc n.toNat
      rw [hs] at this
      refine Asc.cons (by decide) (fun x hx => this x ?_)
      simp only [List.mem_append, List.mem_cons, List.not_mem_nil, or_false] at hx ⊢
      rcases hx with h | h
      · exact .inl h
      · exact .inr (.inl h)
/-- The text of a span that is 0 or above. -/
theorem text_some (u : Int) (h0 : 0 ≤ u) (h1 : u ≤ 9223372036854775808) : ∃ l, clock_text.f u = some (strOfNums (decL 20 (u / 3600000000).toNat 2 [] ++ [58] ++ decL 20 (u / 60000000 % 60).toNat 2 [] ++ [58] ++ decL 20 (u / 1000000 % 60).toNat 2 [] ++ l)) ∧ l.length ≤ 7 ∧ Asc l ∧ clock_Fraction.f (u % 1000000) = some (strOfNums l) := by
  obtain ⟨l, hl, hn, ha⟩ := fraction_some (u % 1000000)
  refine ⟨l, ?_, hn, ha, hl⟩
  unfold clock_text.f
  have e58 : (⟨#[58]⟩ : ByteArray) = strOfNums [58] := rfl
  have d1 := dec_len 20 (u / 3600000000).toNat 2 []
  have d2 := dec_len 20 (u / 60000000 % 60).toNat 2 []
  have d3 := dec_len 20 (u / 1000000 % 60).toNat 2 []
  simp only [List.length_nil] at d1 d2 d3
  rw [parts_eq u h0 h1, Option.bind_some]
  simp only [two_pos (u / 3600000000) (by omega) (by omega), two_pos (u / 60000000 % 60) (by omega) (by omega), two_pos (u / 1000000 % 60) (by omega) (by omega), hl, Option.bind_some, e58, ← nums_app, strOfNums_size]
  simp only [List.length_append, List.length_singleton]
  rw [if_pos (by omega), if_pos (by omega), if_pos (by omega), if_pos (by omega), if_pos (by omega)]
/-- A span is written. -/
theorem long_pos (u : Int) (h0 : 0 ≤ u) (h1 : u ≤ 9223372036854775807) : clock_Long.f u = clock_text.f u := by
  unfold clock_Long.f
  rw [if_neg (by omega), u64i u h0 (by omega)]
  cases clock_text.f u <;> rfl
theorem text_size (u : Int) (h0 : 0 ≤ u) (h1 : u ≤ 9223372036854775808) (r : ByteArray) (h : clock_text.f u = some r) : r.size ≤ 100 := by
  obtain ⟨l, h2, h3, _, _⟩ := text_some u h0 h1
  have e := Option.some.inj (h.symm.trans h2)
  rw [e, strOfNums_size]
  have d1 := dec_len 20 (u / 3600000000).toNat 2 []
  have d2 := dec_len 20 (u / 60000000 % 60).toNat 2 []
  have d3 := dec_len 20 (u / 1000000 % 60).toNat 2 []
  simp only [List.length_append, List.length_singleton, List.length_nil] at d1 d2 d3 ⊢
  omega
theorem long_neg (u : Int) (h0 : 0 < u) (h1 : u ≤ 9223372036854775808) (r : ByteArray) (h : clock_text.f u = some r) : clock_Long.f (-u) = some (⟨#[45]⟩ ++ r) := by
  unfold clock_Long.f
  rw [if_pos (by omega)]
  have e : IntKind.u64.wrap (-IntKind.u64.wrap (-u)) = u := by rw [u64w, u64w]; omega
  rw [e, h, Option.bind_some]
  have := text_size u (by omega) h1 r h
  rw [if_pos (by omega)]
end Go.Proofs.Ytecijnjnhdjokaa.RNum
