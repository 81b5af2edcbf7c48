/- For every text: in small letters, as a number, as a month and a weekday, and whether it is another one's but for that, it is what the reference says. Conditions: none but the row's own. -/
import Derived.Test.YtlpbjpkjmagodaaLemG
namespace Go.Proofs.Ytlpbjpkjmagodaa.Pure
open Go.RowKit Go.Proofs.Ytlpbjpkjmagodaa.PWord Go.Proofs.Ytlpbjpkjmagodaa.Lem Go.Proofs.YtlpbjpkjmagodaaW.PrintWords Go.Proofs.YtlpbjpkjmagodaaW.PrintLast Go.Proofs.YtlpbjpkjmagodaaW.PrintMore
theorem WordTells : computuslaw05_WordTells.Pure := by
  intro a0 a1 h0 h1
  obtain ⟨x, n1, n2⟩ := number_eq a0 h0
  obtain ⟨l1, l2⟩ := lower_eq a0 h0
  obtain ⟨s1, s2⟩ := same_eq a0 a1 h0 h1
  obtain ⟨m, m1, m2⟩ := month_eq a0 h0
  obtain ⟨d, d1, d2⟩ := day_eq a0 h0
  refine Ev.rounds (r := true) ?_
  unfold computuslaw05_WordTells.f
  simp only [n1, l1, s1, m1, d1, Option.bind_some]
  refine Ev.bind n2 (Ev.bind l2 ?_)
  simp only [if_true]
  refine Ev.bind s2 ?_
  simp only [beq_self_eq_true, if_true]
  refine Ev.bind m2 ?_
  simp only [if_true]
  refine Ev.bind d2 ?_
  simp only [if_true]
  exact Ev.bind known_ev (Ev.now true)
end Go.Proofs.Ytlpbjpkjmagodaa.Pure
