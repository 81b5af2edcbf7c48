/-
  DERIVED. GIVEN WITH THE SEED: THE CARDS: each row of YtnjoncbgekonbaaDoorRows.lean that lists a variable, with what it lists TIED to the program's text (the seventh form; the later family's looks); each row that meets fmt, with fmt's text TOLD by the authors' own Lean function (tested against real Go, not proved from fmt's source: count such statements apart). THE CARD IS WHAT COUNTS. Prove the row's statement (the work); the ties are given (YtnjoncbgekonbaaDoorTie.lean); close each card by the builder's one call (the guide's Derived/Test/ToyasCard.lean, 'card_holds'). Laid BY PROGRAM, IN A SANDBOX (cutbox-door.mjs). By AI agents, Wed Nov 11 2026. No macro, syntax, notation, axiom, sorry.
-/
import Derived.Test.YtnjoncbgekonbaaDoorRows
import GoSem.ClaimSeven
namespace Go.Proofs.YtnjoncbgekonbaaDoor
namespace Rows

/-- THE TIED CARD OF 'computuslaw22.ExprBrackets'. -/
def exprBracketsCard : Claim7 := { stood := { row := exprBracketsRow, standIns := [], harness := (true, "b0658b2a772dfdda1eb77389ef1b2a6b97a49000f0e00c5c7e3f6a32919cdec3"), looks := true }, kinds := [], alts := [], laidByText := true, laidKinds := [.data, .pinned], laidTests := true, laidLooks := .later }
def ExprBracketsCardSaid : Prop := Claim7.holds Tryd.pinned (.plain (OpenSpec.ofChange exprBracketsSpec)) exprBracketsCard

/-- THE TIED CARD OF 'computuslaw22.ExprPlaces'. -/
def exprPlacesCard : Claim7 := { stood := { row := exprPlacesRow, standIns := [], harness := (true, "b0658b2a772dfdda1eb77389ef1b2a6b97a49000f0e00c5c7e3f6a32919cdec3"), looks := true }, kinds := [], alts := [], laidByText := true, laidKinds := [.data, .pinned], laidTests := true, laidLooks := .later }
def ExprPlacesCardSaid : Prop := Claim7.holds Tryd.pinned (.plain (OpenSpec.ofChange exprPlacesSpec)) exprPlacesCard

/-- THE TIED CARD OF 'computuslaw22.ExprSum'. -/
def exprSumCard : Claim7 := { stood := { row := exprSumRow, standIns := [], harness := (true, "b0658b2a772dfdda1eb77389ef1b2a6b97a49000f0e00c5c7e3f6a32919cdec3"), looks := true }, kinds := [], alts := [], laidByText := true, laidKinds := [.data, .pinned], laidTests := true, laidLooks := .later }
def ExprSumCardSaid : Prop := Claim7.holds Tryd.pinned (.plain (OpenSpec.ofChange exprSumSpec)) exprSumCard

/-- THE SECOND FORM's CARD OF 'computuslaw22.ExprBrackets'. -/
def exprBracketsUptoCard : Claim7 := { stood := { row := exprBracketsUptoRow, standIns := [], harness := (true, "b0658b2a772dfdda1eb77389ef1b2a6b97a49000f0e00c5c7e3f6a32919cdec3"), looks := true }, kinds := [], alts := [], laidByText := true, laidKinds := [.data, .pinned], laidTests := true, laidLooks := .later }
def ExprBracketsUptoCardSaid : Prop := Claim7.holds Tryd.pinned (.plain (OpenSpec.upto exprBracketsSpec)) exprBracketsUptoCard

/-- THE SECOND FORM's CARD OF 'computuslaw22.ExprPlaces'. -/
def exprPlacesUptoCard : Claim7 := { stood := { row := exprPlacesUptoRow, standIns := [], harness := (true, "b0658b2a772dfdda1eb77389ef1b2a6b97a49000f0e00c5c7e3f6a32919cdec3"), looks := true }, kinds := [], alts := [], laidByText := true, laidKinds := [.data, .pinned], laidTests := true, laidLooks := .later }
def ExprPlacesUptoCardSaid : Prop := Claim7.holds Tryd.pinned (.plain (OpenSpec.upto exprPlacesSpec)) exprPlacesUptoCard

/-- THE SECOND FORM's CARD OF 'computuslaw22.ExprSum'. -/
def exprSumUptoCard : Claim7 := { stood := { row := exprSumUptoRow, standIns := [], harness := (true, "b0658b2a772dfdda1eb77389ef1b2a6b97a49000f0e00c5c7e3f6a32919cdec3"), looks := true }, kinds := [], alts := [], laidByText := true, laidKinds := [.data, .pinned], laidTests := true, laidLooks := .later }
def ExprSumUptoCardSaid : Prop := Claim7.holds Tryd.pinned (.plain (OpenSpec.upto exprSumSpec)) exprSumUptoCard
end Rows
end Go.Proofs.YtnjoncbgekonbaaDoor
