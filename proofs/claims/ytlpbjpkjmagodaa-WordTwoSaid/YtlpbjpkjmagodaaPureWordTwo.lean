/- For all two texts: both with a blank between them have the parts of the one, and those of the other, so many bytes on. Conditions: none but the row's own. -/
import Derived.Test.YtlpbjpkjmagodaaLemE
namespace Go.Proofs.Ytlpbjpkjmagodaa.Pure
open Go.RowKit Go.Proofs.Ytlpbjpkjmagodaa.PWord Go.Proofs.Ytlpbjpkjmagodaa.Lem Go.Proofs.YtlpbjpkjmagodaaW.PrintWords Go.Proofs.YtlpbjpkjmagodaaW.PrintLast
theorem WordTwo : computuslaw05_WordTwo.Pure := fun a0 a1 _ _ => ⟨⟨60, known_ok⟩, two_ok a0 a1⟩
end Go.Proofs.Ytlpbjpkjmagodaa.Pure
