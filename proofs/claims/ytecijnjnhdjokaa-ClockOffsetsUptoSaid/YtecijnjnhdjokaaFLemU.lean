/- What the clock's reading of an offset answers, once its groups are known. -/
import Derived.Test.YtecijnjnhdjokaaFLemS
import Derived.Test.YtecijnjnhdjokaaPClockFx6
namespace Go.Proofs.Ytecijnjnhdjokaa.FNum
open Go.RowKit Go.Proofs.Ytecijnjnhdjokaa.PClockF Go.Proofs.Ytecijnjnhdjokaa.Utf Go.Proofs.YtecijnjnhdjokaaW.PrintWords Go.Proofs.YtecijnjnhdjokaaW.PrintLast Go.Proofs.YtecijnjnhdjokaaW.PrintMore
set_option linter.unusedVariables false
set_option linter.unusedSimpArgs false
/-- The end of both readings. -/
def fin (c n : Int) (most : Bool) : Option (Int × Int) := if most = true then some (0, 10) else if 57599 < n then some (0, 10) else if c = 45 then some (-n, 0) else some (n, 0)
theorem tl (p : List Int) : (strOfNums p).toList = p.map fun n => UInt8.ofNat n.toNat := by
  rw [← strOfNums_data]
  exact ByteArray.toList_eq _
theorem end1 (c h c1 : Int) (hh : 0 ≤ h ∧ h ≤ 999999) : coEnd c [⟨h, c1⟩] = fin c (h * 3600) false := by
  unfold coEnd fin
  rw [if_pos ⟨hh.1, hh.2, by simp, by simp⟩]
  simp only [List.tail_cons, coLoop, Option.bind_some]
  rw [if_pos (by show 0 ≤ h * 3600; omega)]
  rfl
theorem end2_bad (c h c1 m c2 : Int) (hh : 0 ≤ h ∧ h ≤ 999999) (h2 : c2 ≠ 2) (t : List S45) (ht : t.length ≤ 900000) : coEnd c (⟨h, c1⟩ :: ⟨m, c2⟩ :: t) = some (0, 13) := by
  unfold coEnd
  rw [if_pos ⟨hh.1, hh.2, by simp, by simp; omega⟩]
  simp only [List.tail_cons, coLoop]
  rw [if_neg h2]
  rfl
theorem end2 (c h c1 m : Int) (hh : 0 ≤ h ∧ h ≤ 999999) (hm : 0 ≤ m ∧ m ≤ 999999) : coEnd c [⟨h, c1⟩, ⟨m, 2⟩] = fin c (h * 3600 + m * 60) (decide (59 < m)) := by
  unfold coEnd fin
  rw [if_pos ⟨hh.1, hh.2, by simp, by simp⟩]
  simp only [List.tail_cons, coLoop, if_true]
  rw [if_pos ⟨hm, ⟨by show 0 ≤ h * 3600; omega, by show h * 3600 ≤ 100000000000; omega⟩, by decide, by decide⟩, Option.bind_some]
  simp only [Bool.false_or]
  rw [if_pos (by show 0 ≤ h * 3600 + m * 60; omega)]
  rfl
theorem end3_bad (c h c1 m s c3 : Int) (hh : 0 ≤ h ∧ h ≤ 999999) (hm : 0 ≤ m ∧ m ≤ 999999) (h3 : c3 ≠ 2) : coEnd c [⟨h, c1⟩, ⟨m, 2⟩, ⟨s, c3⟩] = some (0, 13) := by
  unfold coEnd
  rw [if_pos ⟨hh.1, hh.2, by simp, by simp⟩]
  simp only [List.tail_cons, coLoop, if_true]
  rw [if_pos ⟨hm, ⟨by show 0 ≤ h * 3600; omega, by show h * 3600 ≤ 100000000000; omega⟩, by decide, by decide⟩, if_neg h3]
  rfl
theorem end3 (c h c1 m s : Int) (hh : 0 ≤ h ∧ h ≤ 999999) (hm : 0 ≤ m ∧ m ≤ 999999) (hs : 0 ≤ s ∧ s ≤ 999999) : coEnd c [⟨h, c1⟩, ⟨m, 2⟩, ⟨s, 2⟩] = fin c (h * 3600 + m * 60 + s) (decide (59 < m) || decide (59 < s)) := by
  unfold coEnd fin
  rw [if_pos ⟨hh.1, hh.2, by simp, by simp⟩]
  simp only [List.tail_cons, coLoop, if_true]
  rw [if_pos ⟨hm, ⟨by show 0 ≤ h * 3600; omega, by show h * 3600 ≤ 100000000000; omega⟩, by decide, by decide⟩, if_pos ⟨hs, ⟨by show 0 ≤ h * 3600 + m * 60; omega, by show h * 3600 + m * 60 ≤ 100000000000; omega⟩, by decide, by decide⟩, Option.bind_some]
  simp only [Bool.false_or]
  rw [show (60 : Int) / 60 = 1 from rfl, Int.mul_one, if_pos (by show 0 ≤ h * 3600 + m * 60 + s; omega)]
  rfl
end Go.Proofs.Ytecijnjnhdjokaa.FNum
