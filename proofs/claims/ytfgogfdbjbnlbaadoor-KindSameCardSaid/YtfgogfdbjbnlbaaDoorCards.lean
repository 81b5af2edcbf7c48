/-
  DERIVED. GIVEN WITH THE SEED: THE CARDS: each row of YtfgogfdbjbnlbaaDoorRows.lean that lists a variable, with what it lists TIED to the program's text (the seventh form; the later family's looks); each row that meets fmt, with fmt's text TOLD by the authors' own Lean function (tested against real Go, not proved from fmt's source: count such statements apart). THE CARD IS WHAT COUNTS. Prove the row's statement (the work); the ties are given (YtfgogfdbjbnlbaaDoorTie.lean); close each card by the builder's one call (the guide's Derived/Test/ToyasCard.lean, 'card_holds'). Laid BY PROGRAM, IN A SANDBOX (cutbox-door.mjs). By AI agents, Wed Nov 11 2026. No macro, syntax, notation, axiom, sorry.
-/
import Derived.Test.YtfgogfdbjbnlbaaDoorRows
import GoSem.ClaimSeven
namespace Go.Proofs.YtfgogfdbjbnlbaaDoor
namespace Rows

/-- THE TIED CARD OF 'computuslaw23.KindOne'. -/
def kindOneCard : Claim7 := { stood := { row := kindOneRow, standIns := [], harness := (true, "cdc40860162a2f727b12cb3d31cef8a60185436414a0bd2c07a517c42955bb14"), looks := true }, kinds := [], alts := [], laidByText := true, laidKinds := [.listed, .data], laidTests := true, laidLooks := .later }
def KindOneCardSaid : Prop := Claim7.holds Tryd.pinned (.plain (OpenSpec.ofChange kindOneSpec)) kindOneCard

/-- THE TIED CARD OF 'computuslaw23.KindSame'. -/
def kindSameCard : Claim7 := { stood := { row := kindSameRow, standIns := [], harness := (true, "cdc40860162a2f727b12cb3d31cef8a60185436414a0bd2c07a517c42955bb14"), looks := true }, kinds := [], alts := [], laidByText := true, laidKinds := [.listed, .data], laidTests := true, laidLooks := .later }
def KindSameCardSaid : Prop := Claim7.holds Tryd.pinned (.plain (OpenSpec.ofChange kindSameSpec)) kindSameCard

/-- THE TIED CARD OF 'computuslaw23.KindFinds'. -/
def kindFindsCard : Claim7 := { stood := { row := kindFindsRow, standIns := [], harness := (true, "cdc40860162a2f727b12cb3d31cef8a60185436414a0bd2c07a517c42955bb14"), looks := true }, kinds := [], alts := [], laidByText := true, laidKinds := [.listed, .data], laidTests := true, laidLooks := .later }
def KindFindsCardSaid : Prop := Claim7.holds Tryd.pinned (.plain (OpenSpec.ofChange kindFindsSpec)) kindFindsCard

/-- THE SECOND FORM's CARD OF 'computuslaw23.KindOne'. -/
def kindOneUptoCard : Claim7 := { stood := { row := kindOneUptoRow, standIns := [], harness := (true, "cdc40860162a2f727b12cb3d31cef8a60185436414a0bd2c07a517c42955bb14"), looks := true }, kinds := [], alts := [], laidByText := true, laidKinds := [.listed, .data], laidTests := true, laidLooks := .later }
def KindOneUptoCardSaid : Prop := Claim7.holds Tryd.pinned (.plain (OpenSpec.upto kindOneSpec)) kindOneUptoCard

/-- THE SECOND FORM's CARD OF 'computuslaw23.KindSame'. -/
def kindSameUptoCard : Claim7 := { stood := { row := kindSameUptoRow, standIns := [], harness := (true, "cdc40860162a2f727b12cb3d31cef8a60185436414a0bd2c07a517c42955bb14"), looks := true }, kinds := [], alts := [], laidByText := true, laidKinds := [.listed, .data], laidTests := true, laidLooks := .later }
def KindSameUptoCardSaid : Prop := Claim7.holds Tryd.pinned (.plain (OpenSpec.upto kindSameSpec)) kindSameUptoCard

/-- THE SECOND FORM's CARD OF 'computuslaw23.KindFinds'. -/
def kindFindsUptoCard : Claim7 := { stood := { row := kindFindsUptoRow, standIns := [], harness := (true, "cdc40860162a2f727b12cb3d31cef8a60185436414a0bd2c07a517c42955bb14"), looks := true }, kinds := [], alts := [], laidByText := true, laidKinds := [.listed, .data], laidTests := true, laidLooks := .later }
def KindFindsUptoCardSaid : Prop := Claim7.holds Tryd.pinned (.plain (OpenSpec.upto kindFindsSpec)) kindFindsUptoCard
end Rows
end Go.Proofs.YtfgogfdbjbnlbaaDoor
