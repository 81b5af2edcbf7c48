/- Any offset as a text, and any text of a million letters at most as an offset, are what the reference says; there and back. -/
import Derived.Test.YtecijnjnhdjokaaFLemZd
namespace Go.Proofs.Ytecijnjnhdjokaa.Pure
open Go.RowKit Go.Proofs.Ytecijnjnhdjokaa.PClockF Go.Proofs.Ytecijnjnhdjokaa.FNum Go.Proofs.YtecijnjnhdjokaaW.PrintWords Go.Proofs.YtecijnjnhdjokaaW.PrintLast Go.Proofs.YtecijnjnhdjokaaW.PrintMore
theorem ClockOffsets : computuslaw03_ClockOffsets.Pure := by
  intro s x hs hz
  obtain ⟨⟨d, h⟩, hc, hr⟩ := offBoth x (by omega)
  refine Ev.rounds (r := true) ?_
  unfold computuslaw03_ClockOffsets.f
  by_cases hin : -57599 ≤ s ∧ s ≤ 57599
  · obtain ⟨g1, g2⟩ := offset_in s hin
    refine Ev.bind g1 (Ev.bind g2 ?_)
    simp only [hc, Option.bind_some]
    refine Ev.bind hr ?_
    simp only [if_true, bne_self_eq_false]
    refine Ev.step (f := fun k => (computuslaw03_known.f k).bind fun t => some t) (fun k => ?_) (Ev.bind known_ev (Ev.now true))
    rw [computuslaw03_ClockOffsets.j0, if_neg Bool.false_ne_true, if_pos rfl, back s hin, Option.bind_some]
    simp only [if_true]
  · obtain ⟨g1, g2⟩ := offset_out s hin
    refine Ev.bind g1 (Ev.bind g2 ?_)
    simp only [hc, Option.bind_some]
    refine Ev.bind hr ?_
    simp only [if_true, bne_self_eq_false]
    refine Ev.step (f := fun k => (computuslaw03_known.f k).bind fun t => some t) (fun k => ?_) (Ev.bind known_ev (Ev.now true))
    rw [computuslaw03_ClockOffsets.j0, if_neg Bool.false_ne_true, if_neg (by decide)]
end Go.Proofs.Ytecijnjnhdjokaa.Pure
