/- Any text of a million letters at most is read as the reference reads it; what is read is written and read again. -/
import Derived.Test.YtecijnjnhdjokaaRLemKn
namespace Go.Proofs.Ytecijnjnhdjokaa.Pure
open Go.RowKit Go.Proofs.Ytecijnjnhdjokaa.PClockR Go.Proofs.Ytecijnjnhdjokaa.RNum Go.Proofs.YtecijnjnhdjokaaW.PrintWords Go.Proofs.YtecijnjnhdjokaaW.PrintLast Go.Proofs.YtecijnjnhdjokaaW.PrintMore
theorem ClockReads : computuslaw03_ClockReads.Pure := by
  intro x hz
  obtain ⟨⟨a, e⟩, h1, h2, h3⟩ := both x hz
  refine Ev.rounds (r := true) ?_
  unfold computuslaw03_ClockReads.f
  refine Ev.bind h1 (Ev.bind h2 ?_)
  simp only [if_true, bne_self_eq_false]
  by_cases he : e = 0
  · obtain ⟨g0, g1⟩ := h3 he
    simp only at g0 g1
    obtain ⟨l, ht, _, _, _⟩ := text_some a g0 (by omega)
    have hr := read_text a g0 g1 _ ht
    have hT := text_in a ⟨g0, g1⟩ _ ht
    refine Ev.step (f := fun k => (clock_Read.f k (strOfNums (decL 20 (a / 3600000000).toNat 2 [] ++ [58] ++ decL 20 (a / 60000000 % 60).toNat 2 [] ++ [58] ++ decL 20 (a / 1000000 % 60).toNat 2 [] ++ l))).bind fun bt177 => if bt177.2 = 0 then (if bt177.1 = a then ((computuslaw03_known.f k).bind fun t179 => (some t179)) else (some false)) else (some false)) (fun k => ?_) (Ev.bind hr ?_)
    · rw [computuslaw03_ClockReads.j0, if_neg Bool.false_ne_true, if_pos he, hT, Option.bind_some]
      simp only [if_true]
    · simp only [if_true]
      exact Ev.bind known_ev (Ev.now true)
  · refine Ev.step (f := fun k => (computuslaw03_known.f k).bind fun t => some t) (fun k => ?_) (Ev.bind known_ev (Ev.now true))
    rw [computuslaw03_ClockReads.j0, if_neg Bool.false_ne_true, if_neg he]
end Go.Proofs.Ytecijnjnhdjokaa.Pure
