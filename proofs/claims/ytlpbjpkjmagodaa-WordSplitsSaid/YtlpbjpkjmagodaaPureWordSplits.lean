/- For every text: the parts that word.Split tells, or the place where the text is not right, are those of the reference; fixed calls answer as the document says. Conditions: none but the row's own. -/
import Derived.Test.YtlpbjpkjmagodaaLemD
namespace Go.Proofs.Ytlpbjpkjmagodaa.Pure
open Go.RowKit Go.Proofs.Ytlpbjpkjmagodaa.PWord Go.Proofs.Ytlpbjpkjmagodaa.Lem Go.Proofs.YtlpbjpkjmagodaaW.PrintWords Go.Proofs.YtlpbjpkjmagodaaW.PrintLast Go.Proofs.YtlpbjpkjmagodaaW.PrintMore
theorem WordSplits : computuslaw05_WordSplits.Pure := by
  intro a0 _
  obtain ⟨l, at_, e, hl, h1, h2⟩ := split_eq a0
  refine Ev.rounds (r := true) ?_
  unfold computuslaw05_WordSplits.f
  simp only [h1, Option.bind_some]
  refine Ev.bind h2 (Ev.bind (taken_eq l (by omega)) (Ev.bind (parts_eq _ (by rw [List.length_map]; omega)) ?_))
  simp only [if_true]
  refine Ev.bind known_ev (Ev.now true)
end Go.Proofs.Ytlpbjpkjmagodaa.Pure
