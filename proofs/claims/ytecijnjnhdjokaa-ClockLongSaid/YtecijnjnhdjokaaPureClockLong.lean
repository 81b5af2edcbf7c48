/- For any span: below nought it is written as that above, with a sign ahead. -/
import Derived.Test.YtecijnjnhdjokaaLemKn
import Derived.Test.YtecijnjnhdjokaaPClockx7
namespace Go.Proofs.Ytecijnjnhdjokaa.Pure
open Go.RowKit Go.Proofs.Ytecijnjnhdjokaa.PClock Go.Proofs.Ytecijnjnhdjokaa.Num Go.Proofs.YtecijnjnhdjokaaW.PrintWords Go.Proofs.YtecijnjnhdjokaaW.PrintLast Go.Proofs.YtecijnjnhdjokaaW.PrintMore
theorem long_zero : clock_Long.f 0 = some ⟨#[48, 48, 58, 48, 48, 58, 48, 48]⟩ := by decide +kernel
theorem long_ev (x : Int) (h0 : 0 ≤ x) (h1 : x ≤ 9223372036854775807) : Ev (fun k => computuslaw03_ClockLong.j0 k x) true := by
  by_cases hx : x = 0
  · subst hx
    refine Ev.step (f := fun k => (computuslaw03_known.f k).bind fun t => some t) (fun k => ?_) (Ev.bind known_ev (Ev.now true))
    rw [computuslaw03_ClockLong.j0, if_pos rfl, long_zero, Option.bind_some, if_pos (by decide +kernel)]
  · obtain ⟨l, h2, h3, _, _⟩ := text_some x h0 (by omega)
    have hs := text_size x h0 (by omega) _ h2
    refine Ev.step (f := fun k => (computuslaw03_known.f k).bind fun t => some t) (fun k => ?_) (Ev.bind known_ev (Ev.now true))
    rw [computuslaw03_ClockLong.j0, if_neg hx, w64 (-x) (by omega) (by omega), long_neg x (by omega) (by omega) _ h2, long_pos x h0 h1, h2, Option.bind_some, Option.bind_some, if_pos (by omega), if_pos rfl]
theorem ClockLong : computuslaw03_ClockLong.Pure := by
  intro a h
  obtain ⟨h1, h2⟩ := i64_range a h
  refine Ev.rounds (r := true) ?_
  unfold computuslaw03_ClockLong.f
  by_cases hn : a < 0
  · simp only [hn, if_true]
    rw [w64 (a + 1) (by omega) (by omega), w64 (-(a + 1)) (by omega) (by omega)]
    exact long_ev _ (by omega) (by omega)
  · simp only [hn, if_false]
    exact long_ev _ (by omega) (by omega)
end Go.Proofs.Ytecijnjnhdjokaa.Pure
