/- Any source's lines and fields, or the line that can not be, are what the reference says. -/
import Derived.Test.YtohhmnbcaflppaaDoorLLemC
namespace Go.Proofs.YtohhmnbcaflppaaDoor.Pure
open Go.RowKit Go.Proofs.YtohhmnbcaflppaaDoor.PLine Go.Proofs.YtohhmnbcaflppaaDoor.LNum Go.Proofs.YtohhmnbcaflppaaDoor.Rd Go.Proofs.YtohhmnbcaflppaaDoorW.PrintWords Go.Proofs.YtohhmnbcaflppaaDoorW.PrintLast Go.Proofs.YtohhmnbcaflppaaDoorW.PrintMore
theorem LineSplits : computuslaw06_LineSplits.Pure := by
  intro s hs
  obtain ⟨r, h1, h2⟩ := split_ev s
  obtain ⟨hl, hf⟩ := split_small s r h1
  refine Ev.rounds (r := true) ?_
  unfold computuslaw06_LineSplits.f
  simp only [h1, Option.bind_some]
  refine Ev.bind h2 (Ev.bind (taken_ev r.1 (by omega)) (Ev.bind (same_ev true _ _ (like_refl true _) (by rw [List.length_map]; omega) (fun x hx => ?_)) ?_))
  · obtain ⟨y, hy, rfl⟩ := List.mem_map.1 hx
    have := hf y hy
    show y.f1.length ≤ _
    omega
  · simp only [if_true, conv, computuslaw06_known.f, Option.bind_some]
    exact Ev.now _
end Go.Proofs.YtohhmnbcaflppaaDoor.Pure
