/- How the reference reads an offset, stage by stage. -/
import Derived.Test.YtecijnjnhdjokaaFLemU
import Derived.Test.YtecijnjnhdjokaaPClockFx8
namespace Go.Proofs.Ytecijnjnhdjokaa.FNum
open Go.RowKit Go.Proofs.Ytecijnjnhdjokaa.PClockF Go.Proofs.Ytecijnjnhdjokaa.Utf Go.Proofs.YtecijnjnhdjokaaW.PrintWords Go.Proofs.YtecijnjnhdjokaaW.PrintLast Go.Proofs.YtecijnjnhdjokaaW.PrintMore
set_option linter.unusedVariables false
set_option linter.unusedSimpArgs false
theorem o_bad (neg : Bool) (h m s : Int) (x : ByteArray) : roEnd neg h m s x true = some (0, 13) := by unfold roEnd; rw [if_pos rfl]
theorem o_rest (neg : Bool) (h m s : Int) (b : Int) (t : List Int) (bad : Bool) : roEnd neg h m s (strOfNums (b :: t)) bad = some (0, 13) := by
  unfold roEnd
  rw [strOfNums_size, List.length_cons]
  by_cases hb : bad = true
  · rw [if_pos hb]
  · rw [if_neg hb, if_pos (show 0 < t.length + 1 by omega)]
theorem o_end (neg : Bool) (h m s : Int) (hh : 0 ≤ h ∧ h ≤ 99) (hm : 0 ≤ m ∧ m ≤ 99) (hs : 0 ≤ s ∧ s ≤ 99) : roEnd neg h m s (strOfNums []) false = fin (if neg = true then 45 else 43) (h * 3600 + m * 60 + s) (decide (59 < m) || decide (59 < s)) := by
  unfold roEnd fin
  rw [if_neg Bool.false_ne_true, strOfNums_size, if_neg (by simp), if_pos ⟨hh.1, hh.2, hm.1, hm.2, hs.1, hs.2⟩]
  by_cases h1 : 59 < m
  · rw [if_pos h1, decide_eq_true h1, Bool.true_or, if_pos rfl]
  · rw [if_neg h1, decide_eq_false h1, Bool.false_or]
    by_cases h2 : 59 < s
    · rw [if_pos h2, decide_eq_true h2, if_pos rfl]
    · rw [if_neg h2, decide_eq_false h2, if_neg Bool.false_ne_true]
      by_cases h3 : 57599 < h * 3600 + m * 60 + s
      · rw [if_pos h3, if_pos h3]
      · rw [if_neg h3, if_neg h3]
        cases neg with
        | true => rfl
        | false => rfl
/-- The reference's second way. -/
def elseB (k : Nat) (neg : Bool) (s : ByteArray) (bad : Bool) : Option (Int × Int) :=
  (computusref03_scan_num.f k s bad 1 2).bind fun p1 => (computusref03_scan_sign.f p1.2.1 p1.2.2 58).bind fun p2 => if p2.1 = true then (computusref03_scan_num.f k p2.2.1 p2.2.2 2 2).bind fun p3 => (computusref03_scan_sign.f p3.2.1 p3.2.2 58).bind fun p4 => if p4.1 = true then (computusref03_scan_num.f k p4.2.1 p4.2.2 2 2).bind fun p5 => roEnd neg p1.1 p3.1 p5.1 p5.2.1 p5.2.2 else roEnd neg p1.1 p3.1 0 p4.2.1 p4.2.2 else roEnd neg p1.1 0 0 p2.2.1 p2.2.2
theorem body_else (k : Nat) (neg : Bool) (s : ByteArray) (h : ¬ (s.size = 4 ∧ ¬ bt s 1 = 58 ∧ ¬ bt s 2 = 58)) : roBody k neg s false = elseB k neg s false := by
  unfold roBody elseB
  rw [if_neg h]
end Go.Proofs.Ytecijnjnhdjokaa.FNum
