/- What the law's own fixed calls answer. -/
import Derived.Test.YtecijnjnhdjokaaRLemX
namespace Go.Proofs.Ytecijnjnhdjokaa.RNum
open Go.RowKit Go.Proofs.Ytecijnjnhdjokaa.PClockR Go.Proofs.Ytecijnjnhdjokaa.Utf Go.Proofs.YtecijnjnhdjokaaW.PrintWords Go.Proofs.YtecijnjnhdjokaaW.PrintLast Go.Proofs.YtecijnjnhdjokaaW.PrintMore
theorem known_ok : computuslaw03_known.f 60 = some true := by decide +kernel
theorem known_ev : Ev (fun k => computuslaw03_known.f k) true := Ev.of computuslaw03_known.mono known_ok
end Go.Proofs.Ytecijnjnhdjokaa.RNum
