/- The lines of any source, as a source, are read as the same fields. -/
import Derived.Test.YtohhmnbcaflppaaDoorLLemE
namespace Go.Proofs.YtohhmnbcaflppaaDoor.Pure
open Go.RowKit Go.Proofs.YtohhmnbcaflppaaDoor.PLine Go.Proofs.YtohhmnbcaflppaaDoor.LNum Go.Proofs.YtohhmnbcaflppaaDoor.Rd Go.Proofs.YtohhmnbcaflppaaDoorW.PrintWords Go.Proofs.YtohhmnbcaflppaaDoorW.PrintLast Go.Proofs.YtohhmnbcaflppaaDoorW.PrintMore
theorem LineBack : computuslaw06_LineBack.Pure := by
  intro s hs
  obtain ⟨r, h1, _⟩ := split_ev s
  refine Ev.rounds (r := true) ?_
  unfold computuslaw06_LineBack.f
  simp only [h1, Option.bind_some]
  rcases split_cases s r h1 with ⟨e0, hz, hok, hl, rfl⟩ | ⟨e0, e1⟩
  · simp only [if_true]
    have hg := good_of s hz hok 0
    have hjl := join_len _ hg
    have hj : line_Join.f (num (linesOf s) 0) = some ⟨(joinL (num (linesOf s) 0)).toArray⟩ := by
      unfold line_Join.f
      rw [if_pos (by omega)]
    simp only [hj, Option.bind_some]
    obtain ⟨hok2, hf2⟩ := join_fields _ hg
    generalize num (linesOf s) 0 = l at hl hg hjl hj hok2 hf2
    by_cases hsz : ((⟨(joinL l).toArray⟩ : ByteArray).size : Int) > 8192
    · simp only [hsz, if_true, computuslaw06_known.f, Option.bind_some]
      exact Ev.now _
    · simp only [hsz, if_false]
      have hn : (num (linesOf ⟨(joinL l).toArray⟩) 0).length ≤ 400 := by
        have := congrArg List.length (hf2 0)
        rw [List.length_map, List.length_map] at this
        show (num (asB (nlS (joinL l))) 0).length ≤ 400
        omega
      have hs2 := split_of ⟨(joinL l).toArray⟩ (by omega) hok2 hn
      simp only [hs2, Option.bind_some, if_true]
      refine Ev.bind (taken_ev l (by omega)) (Ev.bind (taken_ev _ (by omega)) (Ev.bind (same_lines false _ _ (like_map _ _ (hf2 0).symm) (by omega) (fun x hx => (hg x hx).2.1)) ?_))
      simp only [if_true, computuslaw06_known.f, Option.bind_some]
      exact Ev.now _
  · simp only [e0, if_false, e1]
    simp only [List.length_nil, computuslaw06_known.f, Option.bind_some]
    exact Ev.congr (f := fun _ => some true) (fun k => rfl) (Ev.now _)
end Go.Proofs.YtohhmnbcaflppaaDoor.Pure
