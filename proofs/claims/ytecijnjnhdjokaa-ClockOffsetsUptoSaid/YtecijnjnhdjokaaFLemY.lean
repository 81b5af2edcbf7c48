/- The clock's reading of an offset, on rows of bytes. -/
import Derived.Test.YtecijnjnhdjokaaFLemX
namespace Go.Proofs.Ytecijnjnhdjokaa.FNum
open Go.RowKit Go.Proofs.Ytecijnjnhdjokaa.PClockF Go.Proofs.Ytecijnjnhdjokaa.Utf Go.Proofs.YtecijnjnhdjokaaW.PrintWords Go.Proofs.YtecijnjnhdjokaaW.PrintLast Go.Proofs.YtecijnjnhdjokaaW.PrintMore
set_option linter.unusedVariables false
set_option linter.unusedSimpArgs false
/-- What comes of the groups. -/
def K (c : Int) (g : List S45 × ByteArray × Bool) : Option (Int × Int) :=
  if g.2.2 = true then
    (if 0 < g.1.length then
      (if g.2.1.toList = ([] : List UInt8) ∧ (rd_T45 g.1 0).f1 = 4 then
        (if 0 ≤ (rd_T45 g.1 0).f0 ∧ (rd_T45 g.1 0).f0 ≤ 999999 then coMid c [⟨IntKind.i64.wrap ((rd_T45 g.1 0).f0.tdiv 100), 2⟩, ⟨(rd_T45 g.1 0).f0.tmod 100, 2⟩] ⟨#[58]⟩ else none)
      else coMid c g.1 g.2.1)
    else none)
  else some (0, 13)
theorem co_nil : clock_ReadOffset.f (strOfNums []) = some (0, 13) := rfl
theorem co_eq (c : Int) (t : List Int) (hc : 0 ≤ c ∧ c < 256) (h : c = 43 ∨ c = 45) : clock_ReadOffset.f (strOfNums (c :: t)) = (clock_groups.f (strOfNums t)).bind (K c) := by
  have hb : bt (strOfNums (c :: t)) 0 = c := bt_numsB (c :: t) 0 (by simp) hc
  unfold clock_ReadOffset.f
  rw [hb, if_neg (by rw [strOfNums_size]; simp), if_neg (by omega), nums_drop]
  rfl
theorem co_other (c : Int) (t : List Int) (hc : 0 ≤ c ∧ c < 256) (h : c ≠ 43 ∧ c ≠ 45) : clock_ReadOffset.f (strOfNums (c :: t)) = some (0, 13) := by
  have hb : bt (strOfNums (c :: t)) 0 = c := bt_numsB (c :: t) 0 (by simp) hc
  unfold clock_ReadOffset.f
  rw [hb, if_neg (by rw [strOfNums_size]; simp), if_pos h]
theorem k_fail (c : Int) (L : List S45) (sg : ByteArray) : K c (L, sg, false) = some (0, 13) := rfl
theorem k_mid (c : Int) (L : List S45) (sg : ByteArray) (hL : 0 < L.length) (h : ¬ (sg.toList = ([] : List UInt8) ∧ (rd_T45 L 0).f1 = 4)) : K c (L, sg, true) = coMid c L sg := by
  unfold K
  rw [if_pos rfl, if_pos hL, if_neg h]
theorem m_sign (c : Int) (L : List S45) (sg : ByteArray) (h : ¬ (sg.toList = ([] : List UInt8) ∨ sg.toList = ([58] : List UInt8) ∨ sg.toList = ([58, 58] : List UInt8))) : coMid c L sg = some (0, 13) := by
  unfold coMid
  rw [if_neg h]
theorem m_one (c : Int) (L : List S45) (sg : ByteArray) (hL : 0 < L.length) (h : ¬ ((rd_T45 L 0).f1 = 1 ∨ (rd_T45 L 0).f1 = 2)) : coMid c L sg = some (0, 13) := by
  unfold coMid
  by_cases hs : sg.toList = ([] : List UInt8) ∨ sg.toList = ([58] : List UInt8) ∨ sg.toList = ([58, 58] : List UInt8)
  · rw [if_pos hs, if_pos hL, if_neg h]
  · rw [if_neg hs]
theorem m_end (c : Int) (L : List S45) (sg : ByteArray) (hs : sg.toList = ([] : List UInt8) ∨ sg.toList = ([58] : List UInt8) ∨ sg.toList = ([58, 58] : List UInt8)) (hL : 0 < L.length) (h : (rd_T45 L 0).f1 = 1 ∨ (rd_T45 L 0).f1 = 2) : coMid c L sg = coEnd c L := by
  unfold coMid
  rw [if_pos hs, if_pos hL, if_pos h]
end Go.Proofs.Ytecijnjnhdjokaa.FNum
