/-
  No cell of these rows narrows 'for every input' (looked for: loops, veiled, ifaces, maps, wideKeys, modest, calm, conditions, laid).
  DERIVED. THE GIVEN ROWS OF THIS SEAT. 6 by the template 'for every input the law returns true; each argument reads behind the call as it read before'; 0 by the template 'total and deterministic' (their statements: YtecijnjnhdjokaaTotals.lean).
  GIVEN WITH THE SEED: the statements are not yours to turn. If you find one false, say at which input.
  Laid BY PROGRAM, IN A SANDBOX (cutbox-rows.mjs): the forced cells as the released guide's own fill.sh prints them over the translation c52a12e81331711d… (all of the seat's roots in one cut). By AI agents, Wed Nov 11 2026. No macro, syntax, notation, axiom, sorry.
-/
import Derived.Test.YtecijnjnhdjokaaChecked
import GoSem.Claim
import GoSem.ClaimJoined
import GoSem.ClaimMapViews
import Derived.JoinedTies
import Derived.KernelRfl
namespace Go.Proofs.Ytecijnjnhdjokaa
/- THE CELL 'sum', in the pinned program and in every row, IS THE sha256 OF THE DUMP (.gsa) THAT YtecijnjnhdjokaaProg.lean LOADS. Nothing in Lean hashes anything: it is a label: what it is worth is what the hold of that sum in a sandbox is worth. -/
noncomputable def Try.pinned : Pinned := { name := "ytecijnjnhdjokaa", sum := "c52a12e81331711d44d44425618080d39951731738a98ba46184eb9eaf7649d4", checked := Try.checked }
namespace Rows
def none {H : Type} : Left H := { results := [], args := [] }

/-- 'computuslaw03.ClockTexts': WHATEVER THE INPUT: true; the input reads as it did. -/
def clockTextsSpec : ChangeSpec := { name := "clockTexts", fn := fun _ => fun
  | [d] => { results := [.lit (.bool true)], args := [d] }
  | _ => none }
def clockTextsRow : OpenClaim := { program := "ytecijnjnhdjokaa", sum := "c52a12e81331711d44d44425618080d39951731738a98ba46184eb9eaf7649d4", func := "computus/computuslaw03.ClockTexts", spec := "clockTexts", apart := false }
def ClockTextsSaid : Prop := clockTextsRow.holds Try.pinned (OpenSpec.ofChange clockTextsSpec)

/-- ITS FALSE NEIGHBOUR: 'it returns false'. Refute it at one input. -/
def clockTextsWrong : ChangeSpec := { name := "clockTexts", fn := fun _ => fun
  | [d] => { results := [.lit (.bool false)], args := [d] }
  | _ => none }
def ClockTextsWrongFalsely : Prop := clockTextsRow.holds Try.pinned (OpenSpec.ofChange clockTextsWrong)

/-- 'computuslaw03.ClockReads': WHATEVER THE INPUT: true; the input reads as it did. -/
def clockReadsSpec : ChangeSpec := { name := "clockReads", fn := fun _ => fun
  | [d] => { results := [.lit (.bool true)], args := [d] }
  | _ => none }
def clockReadsRow : OpenClaim := { program := "ytecijnjnhdjokaa", sum := "c52a12e81331711d44d44425618080d39951731738a98ba46184eb9eaf7649d4", func := "computus/computuslaw03.ClockReads", spec := "clockReads", apart := false }
def ClockReadsSaid : Prop := clockReadsRow.holds Try.pinned (OpenSpec.ofChange clockReadsSpec)

/-- ITS FALSE NEIGHBOUR: 'it returns false'. Refute it at one input. -/
def clockReadsWrong : ChangeSpec := { name := "clockReads", fn := fun _ => fun
  | [d] => { results := [.lit (.bool false)], args := [d] }
  | _ => none }
def ClockReadsWrongFalsely : Prop := clockReadsRow.holds Try.pinned (OpenSpec.ofChange clockReadsWrong)

/-- 'computuslaw03.ClockOrder': WHATEVER THE INPUT: true; the input reads as it did. -/
def clockOrderSpec : ChangeSpec := { name := "clockOrder", fn := fun _ => fun
  | [d1, d2] => { results := [.lit (.bool true)], args := [d1, d2] }
  | _ => none }
def clockOrderRow : OpenClaim := { program := "ytecijnjnhdjokaa", sum := "c52a12e81331711d44d44425618080d39951731738a98ba46184eb9eaf7649d4", func := "computus/computuslaw03.ClockOrder", spec := "clockOrder", apart := false }
def ClockOrderSaid : Prop := clockOrderRow.holds Try.pinned (OpenSpec.ofChange clockOrderSpec)

/-- ITS FALSE NEIGHBOUR: 'it returns false'. Refute it at one input. -/
def clockOrderWrong : ChangeSpec := { name := "clockOrder", fn := fun _ => fun
  | [d1, d2] => { results := [.lit (.bool false)], args := [d1, d2] }
  | _ => none }
def ClockOrderWrongFalsely : Prop := clockOrderRow.holds Try.pinned (OpenSpec.ofChange clockOrderWrong)

/-- 'computuslaw03.ClockLong': WHATEVER THE INPUT: true; the input reads as it did. -/
def clockLongSpec : ChangeSpec := { name := "clockLong", fn := fun _ => fun
  | [d] => { results := [.lit (.bool true)], args := [d] }
  | _ => none }
def clockLongRow : OpenClaim := { program := "ytecijnjnhdjokaa", sum := "c52a12e81331711d44d44425618080d39951731738a98ba46184eb9eaf7649d4", func := "computus/computuslaw03.ClockLong", spec := "clockLong", apart := false }
def ClockLongSaid : Prop := clockLongRow.holds Try.pinned (OpenSpec.ofChange clockLongSpec)

/-- ITS FALSE NEIGHBOUR: 'it returns false'. Refute it at one input. -/
def clockLongWrong : ChangeSpec := { name := "clockLong", fn := fun _ => fun
  | [d] => { results := [.lit (.bool false)], args := [d] }
  | _ => none }
def ClockLongWrongFalsely : Prop := clockLongRow.holds Try.pinned (OpenSpec.ofChange clockLongWrong)

/-- 'computuslaw03.ClockParts': WHATEVER THE INPUT: true; the input reads as it did. -/
def clockPartsSpec : ChangeSpec := { name := "clockParts", fn := fun _ => fun
  | [d1, d2, d3, d4] => { results := [.lit (.bool true)], args := [d1, d2, d3, d4] }
  | _ => none }
def clockPartsRow : OpenClaim := { program := "ytecijnjnhdjokaa", sum := "c52a12e81331711d44d44425618080d39951731738a98ba46184eb9eaf7649d4", func := "computus/computuslaw03.ClockParts", spec := "clockParts", apart := false }
def ClockPartsSaid : Prop := clockPartsRow.holds Try.pinned (OpenSpec.ofChange clockPartsSpec)

/-- ITS FALSE NEIGHBOUR: 'it returns false'. Refute it at one input. -/
def clockPartsWrong : ChangeSpec := { name := "clockParts", fn := fun _ => fun
  | [d1, d2, d3, d4] => { results := [.lit (.bool false)], args := [d1, d2, d3, d4] }
  | _ => none }
def ClockPartsWrongFalsely : Prop := clockPartsRow.holds Try.pinned (OpenSpec.ofChange clockPartsWrong)

/-- 'computuslaw03.ClockOffsets': WHATEVER THE INPUT: true; the input reads as it did. -/
def clockOffsetsSpec : ChangeSpec := { name := "clockOffsets", fn := fun _ => fun
  | [d1, d2] => { results := [.lit (.bool true)], args := [d1, d2] }
  | _ => none }
def clockOffsetsRow : OpenClaim := { program := "ytecijnjnhdjokaa", sum := "c52a12e81331711d44d44425618080d39951731738a98ba46184eb9eaf7649d4", func := "computus/computuslaw03.ClockOffsets", spec := "clockOffsets", apart := false }
def ClockOffsetsSaid : Prop := clockOffsetsRow.holds Try.pinned (OpenSpec.ofChange clockOffsetsSpec)

/-- ITS FALSE NEIGHBOUR: 'it returns false'. Refute it at one input. -/
def clockOffsetsWrong : ChangeSpec := { name := "clockOffsets", fn := fun _ => fun
  | [d1, d2] => { results := [.lit (.bool false)], args := [d1, d2] }
  | _ => none }
def ClockOffsetsWrongFalsely : Prop := clockOffsetsRow.holds Try.pinned (OpenSpec.ofChange clockOffsetsWrong)

/- THE SECOND FORM. 'bulk': how many values and letters a reading holds, each counted each time it is reached (what is shared counts as often as it is met; a slice's spare places count too). A statement '..UptoSaid' is the law's where the arguments, and the package variables that the reading takes, are together of bulk at most 1048576: NARROWER than '..Said'. Prove '..Said' where nothing that the law and all that it calls make is longer than what came in: it says more and counts as full. Else prove '..UptoSaid'. A law counts once. -/
mutual
def uptoBulk {H : Type} : DataW H → Nat
  | .lit (.string bytes) => bytes.length + 1
  | .lit _ => 1
  | .nil => 1
  | .ptr d => uptoBulk d + 1
  | .slice elems spare => uptoBulkAll elems + uptoBulkAll spare + 1
  | .agg parts => uptoBulkAll parts + 1
  | .iface _ d => uptoBulk d + 1
  | .map entries => uptoBulkEntries entries + 1
  | .held _ => 1
def uptoBulkAll {H : Type} : List (DataW H) → Nat
  | [] => 0
  | d :: r => uptoBulk d + uptoBulkAll r
def uptoBulkEntries {H : Type} : List (Lit × DataW H) → Nat
  | [] => 0
  | x :: r => uptoBulkEntry x + uptoBulkEntries r
def uptoBulkEntry {H : Type} : Lit × DataW H → Nat
  | (.string bytes, d) => bytes.length + uptoBulk d + 1
  | (_, d) => uptoBulk d + 1
 end
def uptoSmall : (H : Type) → List (DataW H) → Bool := fun _ ds => decide (uptoBulkAll ds ≤ 1048576)
def OpenSpec.upto (s : _root_.Go.ChangeSpec) : _root_.Go.OpenSpec := { _root_.Go.OpenSpec.ofChange s with cond := some uptoSmall }

/-- 'computuslaw03.ClockTexts', WHERE WHAT IT READS IS OF BULK AT MOST 1048576: true; the input reads as it did. -/
def clockTextsUptoRow : OpenClaim := { program := "ytecijnjnhdjokaa", sum := "c52a12e81331711d44d44425618080d39951731738a98ba46184eb9eaf7649d4", func := "computus/computuslaw03.ClockTexts", spec := "clockTexts", apart := false, narrowed := true }
def ClockTextsUptoSaid : Prop := clockTextsUptoRow.holds Try.pinned (OpenSpec.upto clockTextsSpec)

/-- 'computuslaw03.ClockReads', WHERE WHAT IT READS IS OF BULK AT MOST 1048576: true; the input reads as it did. -/
def clockReadsUptoRow : OpenClaim := { program := "ytecijnjnhdjokaa", sum := "c52a12e81331711d44d44425618080d39951731738a98ba46184eb9eaf7649d4", func := "computus/computuslaw03.ClockReads", spec := "clockReads", apart := false, narrowed := true }
def ClockReadsUptoSaid : Prop := clockReadsUptoRow.holds Try.pinned (OpenSpec.upto clockReadsSpec)

/-- 'computuslaw03.ClockOrder', WHERE WHAT IT READS IS OF BULK AT MOST 1048576: true; the input reads as it did. -/
def clockOrderUptoRow : OpenClaim := { program := "ytecijnjnhdjokaa", sum := "c52a12e81331711d44d44425618080d39951731738a98ba46184eb9eaf7649d4", func := "computus/computuslaw03.ClockOrder", spec := "clockOrder", apart := false, narrowed := true }
def ClockOrderUptoSaid : Prop := clockOrderUptoRow.holds Try.pinned (OpenSpec.upto clockOrderSpec)

/-- 'computuslaw03.ClockLong', WHERE WHAT IT READS IS OF BULK AT MOST 1048576: true; the input reads as it did. -/
def clockLongUptoRow : OpenClaim := { program := "ytecijnjnhdjokaa", sum := "c52a12e81331711d44d44425618080d39951731738a98ba46184eb9eaf7649d4", func := "computus/computuslaw03.ClockLong", spec := "clockLong", apart := false, narrowed := true }
def ClockLongUptoSaid : Prop := clockLongUptoRow.holds Try.pinned (OpenSpec.upto clockLongSpec)

/-- 'computuslaw03.ClockParts', WHERE WHAT IT READS IS OF BULK AT MOST 1048576: true; the input reads as it did. -/
def clockPartsUptoRow : OpenClaim := { program := "ytecijnjnhdjokaa", sum := "c52a12e81331711d44d44425618080d39951731738a98ba46184eb9eaf7649d4", func := "computus/computuslaw03.ClockParts", spec := "clockParts", apart := false, narrowed := true }
def ClockPartsUptoSaid : Prop := clockPartsUptoRow.holds Try.pinned (OpenSpec.upto clockPartsSpec)

/-- 'computuslaw03.ClockOffsets', WHERE WHAT IT READS IS OF BULK AT MOST 1048576: true; the input reads as it did. -/
def clockOffsetsUptoRow : OpenClaim := { program := "ytecijnjnhdjokaa", sum := "c52a12e81331711d44d44425618080d39951731738a98ba46184eb9eaf7649d4", func := "computus/computuslaw03.ClockOffsets", spec := "clockOffsets", apart := false, narrowed := true }
def ClockOffsetsUptoSaid : Prop := clockOffsetsUptoRow.holds Try.pinned (OpenSpec.upto clockOffsetsSpec)

end Rows
end Go.Proofs.Ytecijnjnhdjokaa
