/- Text and Long beside the reference's. -/
import Derived.Test.YtecijnjnhdjokaaLemQ
namespace Go.Proofs.Ytecijnjnhdjokaa.Num
open Go.RowKit Go.Proofs.Ytecijnjnhdjokaa.PClock Go.Proofs.Ytecijnjnhdjokaa.Utf Go.Proofs.YtecijnjnhdjokaaW.PrintWords Go.Proofs.YtecijnjnhdjokaaW.PrintLast Go.Proofs.YtecijnjnhdjokaaW.PrintMore
set_option linter.unusedVariables false
set_option linter.unusedSimpArgs false
theorem e58 : (⟨#[58]⟩ : ByteArray) = strOfNums [58] := rfl
theorem e45 : (⟨#[45]⟩ : ByteArray) = strOfNums [45] := rfl
theorem e0 : (⟨#[]⟩ : ByteArray) = strOfNums [] := rfl
theorem text_both (u : Int) (h0 : 0 ≤ u) (h1 : u ≤ 9223372036854775808) : ∃ l, l.length ≤ 100 ∧ clock_text.f u = some (strOfNums l) ∧ (u ≤ 86400000000 → Ev (fun k => computusref03_Text.f k u) (strOfNums l, 0)) ∧ (∀ s : List Int, s.length ≤ 1 → Ev (fun k => computusref03_Long.j0 k u (strOfNums s)) (strOfNums (s ++ l))) := by
  obtain ⟨l1, n1, a1, b1⟩ := two_eq (u / 3600000000) (by omega) (by omega)
  obtain ⟨l2, n2, a2, b2⟩ := two_eq (u / 60000000 % 60) (by omega) (by omega)
  obtain ⟨l3, n3, a3, b3⟩ := two_eq (u / 1000000 % 60) (by omega) (by omega)
  obtain ⟨l4, a4, b4, n4, _⟩ := fraction_eq (u % 1000000)
  refine ⟨l1 ++ [58] ++ l2 ++ [58] ++ l3 ++ l4, by simp; omega, ?_, ?_, ?_⟩
  · unfold clock_text.f
    rw [parts_eq u h0 h1, Option.bind_some]
    simp only [a1, a2, a3, a4, Option.bind_some, e58, ← nums_app, strOfNums_size]
    simp only [List.length_append, List.length_singleton]
    rw [if_pos (by omega), if_pos (by omega), if_pos (by omega), if_pos (by omega), if_pos (by omega)]
  · intro h2
    unfold computusref03_Text.f
    simp only [refParts_eq u h0 h2, Option.bind_some, if_true]
    refine Ev.bind b1 ?_
    simp only [e58, ← nums_app, strOfNums_size, List.length_append, List.length_singleton]
    refine Ev.congr (fun k => if_pos (by omega)) (Ev.bind b2 ?_)
    simp only [e58, ← nums_app, strOfNums_size, List.length_append, List.length_singleton]
    refine Ev.congr (fun k => if_pos (by omega)) (Ev.congr (fun k => if_pos (by omega)) (Ev.bind b3 ?_))
    simp only [e58, ← nums_app, strOfNums_size, List.length_append, List.length_singleton]
    refine Ev.congr (fun k => if_pos (by omega)) (Ev.bind b4 ?_)
    simp only [e58, ← nums_app, strOfNums_size, List.length_append, List.length_singleton]
    exact Ev.congr (fun k => if_pos (by omega)) (Ev.now _)
  · intro s hs
    have c1 : wrap64 (IntKind.u64.wrap (Int.tdiv u 1000000)) = u / 1000000 := by rw [td _ _ h0, u64i _ (by omega) (by omega), w64 _ (by omega) (by omega)]
    have c2 : wrap64 (Int.tdiv (u / 1000000) 3600) = u / 3600000000 := by rw [td _ _ (by omega), w64 _ (by omega) (by omega)]; omega
    have c3 : Int.tmod (wrap64 (Int.tdiv (u / 1000000) 60)) 60 = u / 60000000 % 60 := by rw [td _ _ (by omega), w64 _ (by omega) (by omega), tm _ _ (by omega)]; omega
    have c4 : Int.tmod (u / 1000000) 60 = u / 1000000 % 60 := tm _ _ (by omega)
    have c5 : wrap64 (Int.tmod u 1000000) = u % 1000000 := by rw [tm _ _ h0, w64 _ (by omega) (by omega)]
    refine Ev.step (fun k => by rw [computusref03_Long.j0]) ?_
    simp only [c1, c2, c3, c4, c5]
    refine Ev.bind b1 ?_
    simp only [e58, ← nums_app, strOfNums_size, List.length_append, List.length_singleton]
    refine Ev.congr (fun k => if_pos (by omega)) (Ev.congr (fun k => if_pos (by omega)) (Ev.bind b2 ?_))
    simp only [e58, ← nums_app, strOfNums_size, List.length_append, List.length_singleton]
    refine Ev.congr (fun k => if_pos (by omega)) (Ev.congr (fun k => if_pos (by omega)) (Ev.bind b3 ?_))
    simp only [e58, ← nums_app, strOfNums_size, List.length_append, List.length_singleton]
    refine Ev.congr (fun k => if_pos (by omega)) (Ev.bind b4 ?_)
    simp only [e58, ← nums_app, strOfNums_size, List.length_append, List.length_singleton]
    refine Ev.congr (fun k => if_pos (by omega)) (Ev.congr (fun k => ?_) (Ev.now _))
    simp only [List.append_assoc]
theorem text_out (t : Int) (h : ¬ (0 ≤ t ∧ t ≤ 86400000000)) : clock_Text.f t = some (⟨#[]⟩, 10) ∧ ∀ k, computusref03_Text.f k t = some (⟨#[]⟩, 10) := by
  constructor
  · unfold clock_Text.f
    rw [within_eq, Option.bind_some, decide_eq_false h, if_neg Bool.false_ne_true]
  · intro k
    have e : computusref03_Parts.f t = some (0, 0, 0, 0, 10) := by
      unfold computusref03_Parts.f
      by_cases h0 : t < 0
      · rw [if_pos h0]
      · rw [if_neg h0, if_pos (by omega)]
    unfold computusref03_Text.f
    rw [e, Option.bind_some, if_neg (by decide)]
theorem text_in (t : Int) (h : 0 ≤ t ∧ t ≤ 86400000000) (r : ByteArray) (hr : clock_text.f t = some r) : clock_Text.f t = some (r, 0) := by
  unfold clock_Text.f
  rw [within_eq, Option.bind_some, decide_eq_true h, if_pos rfl, u64i t h.1 (by omega), hr, Option.bind_some]
theorem long_both (t : Int) (h1 : -9223372036854775808 ≤ t) (h2 : t ≤ 9223372036854775807) : ∃ r, clock_Long.f t = some r ∧ Ev (fun k => computusref03_Long.f k t) r := by
  by_cases hn : t < 0
  · obtain ⟨l, hl, a, _, c⟩ := text_both (-t) (by omega) (by omega)
    have hc := long_neg (-t) (by omega) (by omega) _ a
    rw [Int.neg_neg] at hc
    refine ⟨_, hc, ?_⟩
    rw [e45, ← nums_app]
    refine Ev.congr (fun k => ?_) (c [45] (by decide))
    unfold computusref03_Long.f
    rw [if_pos hn, e45, show IntKind.u64.wrap (-IntKind.u64.wrap t) = -t by rw [u64w, u64w]; omega]
  · obtain ⟨l, hl, a, _, c⟩ := text_both t (by omega) (by omega)
    refine ⟨_, (long_pos t (by omega) h2).trans a, ?_⟩
    have hc := c [] (by decide)
    rw [List.nil_append] at hc
    refine Ev.congr (fun k => ?_) hc
    unfold computusref03_Long.f
    rw [if_neg hn, e0, u64i t (by omega) (by omega)]
end Go.Proofs.Ytecijnjnhdjokaa.Num
