/- For any four numbers the clock's Make and Parts answer as the reference says. -/
import Derived.Test.YtecijnjnhdjokaaLemP
namespace Go.Proofs.Ytecijnjnhdjokaa.Pure
open Go.RowKit Go.Proofs.Ytecijnjnhdjokaa.PClock Go.Proofs.Ytecijnjnhdjokaa.Lem Go.Proofs.YtecijnjnhdjokaaW.PrintWords Go.Proofs.YtecijnjnhdjokaaW.PrintLast Go.Proofs.YtecijnjnhdjokaaW.PrintMore
theorem ClockParts : computuslaw03_ClockParts.Pure := by
  intro a b c d _ _ _ _
  obtain ⟨r, m1, m2⟩ := make_eq a b c d
  obtain ⟨q, p1, p2⟩ := bothParts d
  refine Ev.rounds (r := true) ?_
  unfold computuslaw03_ClockParts.f
  simp only [p1, p2, Option.bind_some]
  refine Ev.bind m1 (Ev.bind m2 ?_)
  simp only [if_true]
  exact Ev.bind known_ev (Ev.now true)
end Go.Proofs.Ytecijnjnhdjokaa.Pure
