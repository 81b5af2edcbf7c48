/- What the law's own fixed calls answer. -/
import Derived.Test.YtecijnjnhdjokaaLemM
import Derived.Test.YtecijnjnhdjokaaPClockx5
namespace Go.Proofs.Ytecijnjnhdjokaa.Num
open Go.RowKit Go.Proofs.Ytecijnjnhdjokaa.PClock Go.Proofs.Ytecijnjnhdjokaa.Utf Go.Proofs.YtecijnjnhdjokaaW.PrintWords Go.Proofs.YtecijnjnhdjokaaW.PrintLast Go.Proofs.YtecijnjnhdjokaaW.PrintMore
theorem known_ok : computuslaw03_known.f 60 = some true := by decide +kernel
theorem known_ev : Ev (fun k => computuslaw03_known.f k) true := Ev.of computuslaw03_known.mono known_ok
theorem i64_range (a : Int) (h : (Lit.int .i64 a).wf = true) : -9223372036854775808 ≤ a ∧ a ≤ 9223372036854775807 := by
  simpa [Lit.wf, IntKind.min, IntKind.max, IntKind.signed, IntKind.bits] using h
end Go.Proofs.Ytecijnjnhdjokaa.Num
