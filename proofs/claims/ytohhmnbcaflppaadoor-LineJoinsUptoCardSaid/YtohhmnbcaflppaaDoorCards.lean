/-
  DERIVED. GIVEN WITH THE SEED: THE CARDS: each row of YtohhmnbcaflppaaDoorRows.lean that lists a variable, with what it lists TIED to the program's text (the seventh form; the later family's looks); each row that meets fmt, with fmt's text TOLD by the authors' own Lean function (tested against real Go, not proved from fmt's source: count such statements apart). THE CARD IS WHAT COUNTS. Prove the row's statement (the work); the ties are given (YtohhmnbcaflppaaDoorTie.lean); close each card by the builder's one call (the guide's Derived/Test/ToyasCard.lean, 'card_holds'). Laid BY PROGRAM, IN A SANDBOX (cutbox-door.mjs). By AI agents, Wed Nov 11 2026. No macro, syntax, notation, axiom, sorry.
-/
import Derived.Test.YtohhmnbcaflppaaDoorRows
import GoSem.ClaimSeven
namespace Go.Proofs.YtohhmnbcaflppaaDoor
namespace Rows

/-- THE TIED CARD OF 'computuslaw06.LineSplits'. -/
def lineSplitsCard : Claim7 := { stood := { row := lineSplitsRow, standIns := [], harness := (true, "d51193e8674959689ca21e3f066c1d2d9d4a152ed3583942ce8415a3e48b10c7"), looks := false }, kinds := [], alts := [], laidByText := true, laidKinds := [.data, .pinned], laidTests := true, laidLooks := .later }
def LineSplitsCardSaid : Prop := Claim7.holds Tryd.pinned (.plain (OpenSpec.ofChange lineSplitsSpec)) lineSplitsCard

/-- THE TIED CARD OF 'computuslaw06.LineJoins'. -/
def lineJoinsCard : Claim7 := { stood := { row := lineJoinsRow, standIns := [], harness := (true, "d51193e8674959689ca21e3f066c1d2d9d4a152ed3583942ce8415a3e48b10c7"), looks := false }, kinds := [], alts := [], laidByText := true, laidKinds := [.data, .pinned], laidTests := true, laidLooks := .later }
def LineJoinsCardSaid : Prop := Claim7.holds Tryd.pinned (.plain (OpenSpec.ofChange lineJoinsSpec)) lineJoinsCard

/-- THE TIED CARD OF 'computuslaw06.LineBack'. -/
def lineBackCard : Claim7 := { stood := { row := lineBackRow, standIns := [], harness := (true, "d51193e8674959689ca21e3f066c1d2d9d4a152ed3583942ce8415a3e48b10c7"), looks := false }, kinds := [], alts := [], laidByText := true, laidKinds := [.data, .pinned], laidTests := true, laidLooks := .later }
def LineBackCardSaid : Prop := Claim7.holds Tryd.pinned (.plain (OpenSpec.ofChange lineBackSpec)) lineBackCard

/-- THE TIED CARD OF 'computuslaw06.LineRest'. -/
def lineRestCard : Claim7 := { stood := { row := lineRestRow, standIns := [], harness := (true, "d51193e8674959689ca21e3f066c1d2d9d4a152ed3583942ce8415a3e48b10c7"), looks := false }, kinds := [], alts := [], laidByText := true, laidKinds := [.data, .pinned], laidTests := true, laidLooks := .later }
def LineRestCardSaid : Prop := Claim7.holds Tryd.pinned (.plain (OpenSpec.ofChange lineRestSpec)) lineRestCard

/-- THE TIED CARD OF 'computuslaw06.LineTwo'. -/
def lineTwoCard : Claim7 := { stood := { row := lineTwoRow, standIns := [], harness := (true, "d51193e8674959689ca21e3f066c1d2d9d4a152ed3583942ce8415a3e48b10c7"), looks := false }, kinds := [], alts := [], laidByText := true, laidKinds := [.data, .pinned], laidTests := true, laidLooks := .later }
def LineTwoCardSaid : Prop := Claim7.holds Tryd.pinned (.plain (OpenSpec.ofChange lineTwoSpec)) lineTwoCard

/-- THE SECOND FORM's CARD OF 'computuslaw06.LineSplits'. -/
def lineSplitsUptoCard : Claim7 := { stood := { row := lineSplitsUptoRow, standIns := [], harness := (true, "d51193e8674959689ca21e3f066c1d2d9d4a152ed3583942ce8415a3e48b10c7"), looks := false }, kinds := [], alts := [], laidByText := true, laidKinds := [.data, .pinned], laidTests := true, laidLooks := .later }
def LineSplitsUptoCardSaid : Prop := Claim7.holds Tryd.pinned (.plain (OpenSpec.upto lineSplitsSpec)) lineSplitsUptoCard

/-- THE SECOND FORM's CARD OF 'computuslaw06.LineJoins'. -/
def lineJoinsUptoCard : Claim7 := { stood := { row := lineJoinsUptoRow, standIns := [], harness := (true, "d51193e8674959689ca21e3f066c1d2d9d4a152ed3583942ce8415a3e48b10c7"), looks := false }, kinds := [], alts := [], laidByText := true, laidKinds := [.data, .pinned], laidTests := true, laidLooks := .later }
def LineJoinsUptoCardSaid : Prop := Claim7.holds Tryd.pinned (.plain (OpenSpec.upto lineJoinsSpec)) lineJoinsUptoCard

/-- THE SECOND FORM's CARD OF 'computuslaw06.LineBack'. -/
def lineBackUptoCard : Claim7 := { stood := { row := lineBackUptoRow, standIns := [], harness := (true, "d51193e8674959689ca21e3f066c1d2d9d4a152ed3583942ce8415a3e48b10c7"), looks := false }, kinds := [], alts := [], laidByText := true, laidKinds := [.data, .pinned], laidTests := true, laidLooks := .later }
def LineBackUptoCardSaid : Prop := Claim7.holds Tryd.pinned (.plain (OpenSpec.upto lineBackSpec)) lineBackUptoCard

/-- THE SECOND FORM's CARD OF 'computuslaw06.LineRest'. -/
def lineRestUptoCard : Claim7 := { stood := { row := lineRestUptoRow, standIns := [], harness := (true, "d51193e8674959689ca21e3f066c1d2d9d4a152ed3583942ce8415a3e48b10c7"), looks := false }, kinds := [], alts := [], laidByText := true, laidKinds := [.data, .pinned], laidTests := true, laidLooks := .later }
def LineRestUptoCardSaid : Prop := Claim7.holds Tryd.pinned (.plain (OpenSpec.upto lineRestSpec)) lineRestUptoCard

/-- THE SECOND FORM's CARD OF 'computuslaw06.LineTwo'. -/
def lineTwoUptoCard : Claim7 := { stood := { row := lineTwoUptoRow, standIns := [], harness := (true, "d51193e8674959689ca21e3f066c1d2d9d4a152ed3583942ce8415a3e48b10c7"), looks := false }, kinds := [], alts := [], laidByText := true, laidKinds := [.data, .pinned], laidTests := true, laidLooks := .later }
def LineTwoUptoCardSaid : Prop := Claim7.holds Tryd.pinned (.plain (OpenSpec.upto lineTwoSpec)) lineTwoUptoCard
end Rows
end Go.Proofs.YtohhmnbcaflppaaDoor
