-- Written by a program of this session (mkprint.py, over the kit's print), out of the translation and of the contracts that the session gives.
import Derived.Test.YtecijnjnhdjokaaPClockRx0
import Derived.Test.YtecijnjnhdjokaaPClockRx1
import Derived.Test.YtecijnjnhdjokaaPClockRx3
import Derived.Test.YtecijnjnhdjokaaPClockRx4
import Derived.Test.YtecijnjnhdjokaaPClockRx5
namespace Go.Proofs.Ytecijnjnhdjokaa.PClockR
open Go.RowKit Go.Proofs.YtecijnjnhdjokaaW.PrintWords Go.Proofs.YtecijnjnhdjokaaW.PrintLast Go.Proofs.YtecijnjnhdjokaaW.PrintMore
attribute [local go_sem] max2_int min2_int max_two min_two max_three min_three max_four min_four   -- for this text's walks alone
set_option linter.unusedVariables false
set_option linter.unusedSimpArgs false

/-! ### computusref03_Read: function 19 -/
/-- Noughts behind a fraction. -/
def rdUs : Nat → Int → Int → Option Int
  | 0, _, _ => none
  | d + 1, us, j => if j < 6 then (if 0 ≤ j ∧ 0 ≤ us ∧ us ≤ 999999 then rdUs d (us * 10) (j + 1) else none) else some us
/-- The end of the reading. -/
def rdEnd (k : Nat) (h m sec us : Int) (s : ByteArray) (bad : Bool) : Option (Int × Int) := if bad = true then some (0, 13) else if 0 < s.size then some (0, 13) else computusref03_Make.f k h m sec us
/-- The fraction, where a point stood. -/
def rdFrac (k : Nat) (h m sec : Int) (p6 : Bool × ByteArray × Bool) : Option (Int × Int) :=
  if p6.1 = true then (computusref03_scan_num.f k p6.2.1 p6.2.2 1 6).bind fun p7 => if p6.2.1.size ≤ 140737488355328 ∧ p7.2.1.size ≤ 140737488355328 then (rdUs 10 p7.1 ((p6.2.1.size : Int) - p7.2.1.size)).bind fun us => rdEnd k h m sec us p7.2.1 p7.2.2 else none
  else rdEnd k h m sec 0 p6.2.1 p6.2.2
/-- The seconds, where a second colon stood. -/
def rdSec (k : Nat) (h m : Int) (p4 : Bool × ByteArray × Bool) : Option (Int × Int) :=
  if p4.1 = true then (computusref03_scan_num.f k p4.2.1 p4.2.2 2 2).bind fun p5 => (computusref03_scan_sign.f p5.2.1 p5.2.2 46).bind fun p6 => rdFrac k h m p5.1 p6
  else rdEnd k h m 0 0 p4.2.1 p4.2.2
/-- 'computusref03.Read'. -/
def computusref03_Read.f (k : Nat) (a0 : ByteArray) : Option (Int × Int) :=
  (computusref03_scan_num.f k a0 false 1 2).bind fun p1 => (computusref03_scan_sign.f p1.2.1 p1.2.2 58).bind fun p2 => (computusref03_scan_num.f k p2.2.1 (if p2.1 = true then p2.2.2 else true) 2 2).bind fun p3 => (computusref03_scan_sign.f p3.2.1 p3.2.2 58).bind fun p4 => rdSec k p1.1 p3.1 p4
theorem s48_z0 {w0 W : World} {g : Nat} {f0 : ByteArray} {f1 : Bool} (h : IsS48 w0 W g f0 f1) : W.cell? ⟨g, 0, none⟩ = some (.string f0) := cellS48_0 (And.left h)
theorem s48_z1 {w0 W : World} {g : Nat} {f0 : ByteArray} {f1 : Bool} (h : IsS48 w0 W g f0 f1) : W.cell? ⟨g, 1, none⟩ = some (.bool f1) := cellS48_1 (And.left h)
theorem s48_y0 {w0 W : World} {g : Nat} {f0 : ByteArray} {f1 : Bool} (h : IsS48 w0 W g f0 f1) : W.frozen? ⟨g, 0, none⟩ = false := blk_frozen (And.left h) 0
theorem s48_y1 {w0 W : World} {g : Nat} {f0 : ByteArray} {f1 : Bool} (h : IsS48 w0 W g f0 f1) : W.frozen? ⟨g, 1, none⟩ = false := blk_frozen (And.left h) 1
theorem rdEnd.mono (h m sec us : Int) (s : ByteArray) (bad : Bool) (k : Nat) : LeO (rdEnd k h m sec us s bad) (rdEnd (k + 1) h m sec us s bad) := by
  intro r hr
  unfold rdEnd at hr ⊢
  split at hr
  · rename_i c; rw [if_pos c]; exact hr
  · rename_i c
    rw [if_neg c]
    split at hr
    · rename_i c; rw [if_pos c]; exact hr
    · rename_i c; rw [if_neg c]; exact computusref03_Make.mono _ _ _ _ _ _ hr
theorem bind_le {α β : Type} {x y : Option α} {f g : α → Option β} (h : LeO x y) (hf : ∀ a, LeO (f a) (g a)) : LeO (x.bind f) (y.bind g) := by
  intro r hr
  obtain ⟨a, ha, hr⟩ := Option.bind_eq_some_iff.mp hr
  exact Option.bind_eq_some_iff.mpr ⟨a, h _ ha, hf a _ hr⟩
theorem rdFrac.mono (h m sec : Int) (p6 : Bool × ByteArray × Bool) (k : Nat) : LeO (rdFrac k h m sec p6) (rdFrac (k + 1) h m sec p6) := by
  unfold rdFrac
  by_cases c : p6.1 = true
  · rw [if_pos c, if_pos c]
    refine bind_le (computusref03_scan_num.mono _ _ _ _ _) (fun p7 => ?_)
    by_cases c2 : p6.2.1.size ≤ 140737488355328 ∧ p7.2.1.size ≤ 140737488355328
    · rw [if_pos c2, if_pos c2]
      exact bind_le (fun _ h => h) (fun us => rdEnd.mono _ _ _ _ _ _ _)
    · rw [if_neg c2, if_neg c2]
      exact fun _ h => h
  · rw [if_neg c, if_neg c]
    exact rdEnd.mono _ _ _ _ _ _ _
theorem rdSec.mono (h m : Int) (p4 : Bool × ByteArray × Bool) (k : Nat) : LeO (rdSec k h m p4) (rdSec (k + 1) h m p4) := by
  unfold rdSec
  by_cases c : p4.1 = true
  · rw [if_pos c, if_pos c]
    exact bind_le (computusref03_scan_num.mono _ _ _ _ _) (fun p5 => bind_le (fun _ h => h) (fun p6 => rdFrac.mono _ _ _ _ _))
  · rw [if_neg c, if_neg c]
    exact rdEnd.mono _ _ _ _ _ _ _
theorem computusref03_Read.mono : ∀ a0 k, LeO (computusref03_Read.f k a0) (computusref03_Read.f (k + 1) a0) := by
  intro a0 k
  unfold computusref03_Read.f
  exact bind_le (computusref03_scan_num.mono _ _ _ _ _) (fun p1 => bind_le (fun _ h => h) (fun p2 => bind_le (computusref03_scan_num.mono _ _ _ _ _) (fun p3 => bind_le (fun _ h => h) (fun p4 => rdSec.mono _ _ _ _))))
set_option maxHeartbeats 4000000 in
set_option maxRecDepth 100000 in
theorem computusref03_Read.calls (k : Nat) (a0 : ByteArray) (r1 r2 : Int) (w : World) (h : computusref03_Read.f k a0 = some (r1, r2)) :
    Calls Try.prog 19 #[.string a0] w fun e w' => e = .returned (.tuple #[.int .i64 r1, .int .i64 r2]) ∧ Below w.heap.size w w' := by
  unfold computusref03_Read.f at h
  obtain ⟨⟨hh, s1, b1⟩, q1, h⟩ := Option.bind_eq_some_iff.mp h
  obtain ⟨⟨o2, s2, b2⟩, q2, h⟩ := Option.bind_eq_some_iff.mp h
  obtain ⟨⟨mm, s3, b3⟩, q3, h⟩ := Option.bind_eq_some_iff.mp h
  obtain ⟨⟨o4, s4, b4⟩, q4, h⟩ := Option.bind_eq_some_iff.mp h
  simp only at q2 q3 q4 h
  have Q1 := Aside0.mk q1
  have Q2 := Aside0.mk q2
  have Q3 := Aside0.mk q3
  have Q4 := Aside0.mk q4
  have H := Aside0.mk h
  clear q1 q2 q3 q4 h
  cases o2 with
  | true =>
    have Q3' := Q3.out
    rw [if_pos rfl] at Q3'
    replace Q3 := Aside0.mk Q3'
    clear Q3'
    cases o4 with
    | false =>
      have h := H.out
      unfold rdSec at h
      rw [if_neg Bool.false_ne_true] at h
      replace H := Aside0.mk h
      clear h
      have h := H.out
      unfold rdEnd at h
      clear H
      cases b4 with
      | true =>
        rw [if_pos rfl] at h
        obtain ⟨N1, N2⟩ := Prod.mk.inj (Option.some.inj h)
        subst N1 N2
        clear h
        go_enter Try.func19, Try.ntmps19
        go_wp2_with (first | (go_at_call 36; have X := (computusref03_scan_num.calls k _ a0 false 1 2 hh s1 b1 w _ (IsS48.new w w a0 false (Below.refl _ _)) (below_alloc (Below.refl _ _) _) Q1.out); with_reducible refine X.mono ?_; clear X; rintro e w1 ⟨rfl, hi, hb, hk⟩; have HI1 := Aside0.mk hi; have HB1 := Aside0.mk hb; have z10 := s48_z0 hi; have z11 := s48_z1 hi; have y10 := s48_y0 hi; have y11 := s48_y1 hi; clear hi hb hk) | (go_at_call 37; have X := (computusref03_scan_sign.calls _ s1 b1 58 true s2 b2 w w1 HI1.out HB1.out Q2.out); with_reducible refine X.mono ?_; clear X; rintro e w2 ⟨rfl, hi, hb, hk⟩; have HI2 := Aside0.mk hi; have HB2 := Aside0.mk hb; have z20 := s48_z0 hi; have z21 := s48_z1 hi; have y20 := s48_y0 hi; have y21 := s48_y1 hi; clear hi hb hk) | (go_at_call 36; have X := (computusref03_scan_num.calls k _ s2 b2 2 2 mm s3 b3 w w2 HI2.out HB2.out Q3.out); with_reducible refine X.mono ?_; clear X; rintro e w3 ⟨rfl, hi, hb, hk⟩; have HI3 := Aside0.mk hi; have HB3 := Aside0.mk hb; have z30 := s48_z0 hi; have z31 := s48_z1 hi; have y30 := s48_y0 hi; have y31 := s48_y1 hi; clear hi hb hk) | (go_at_call 37; have X := (computusref03_scan_sign.calls _ s3 b3 58 false s4 true w w3 HI3.out HB3.out Q4.out); with_reducible refine X.mono ?_; clear X; rintro e w4 ⟨rfl, hi, hb, hk⟩; have HI4 := Aside0.mk hi; have HB4 := Aside0.mk hb; have z40 := s48_z0 hi; have z41 := s48_z1 hi; have y40 := s48_y0 hi; have y41 := s48_y1 hi; clear hi hb hk))
        go_ret2
        exact ⟨rfl, HB4.out⟩
      | false =>
        rw [if_neg Bool.false_ne_true] at h
        by_cases hz : 0 < s4.size
        · rw [if_pos hz] at h
          obtain ⟨N1, N2⟩ := Prod.mk.inj (Option.some.inj h)
          subst N1 N2
          have c1 : decide (0 < (s4.size : Int)) = true := decide_eq_true (by omega)
          have c2 : decide (0 < s4.size) = true := decide_eq_true hz
          clear h hz
          go_enter Try.func19, Try.ntmps19
          go_wp2_with (first | (go_at_call 36; have X := (computusref03_scan_num.calls k _ a0 false 1 2 hh s1 b1 w _ (IsS48.new w w a0 false (Below.refl _ _)) (below_alloc (Below.refl _ _) _) Q1.out); with_reducible refine X.mono ?_; clear X; rintro e w1 ⟨rfl, hi, hb, hk⟩; have HI1 := Aside0.mk hi; have HB1 := Aside0.mk hb; have z10 := s48_z0 hi; have z11 := s48_z1 hi; have y10 := s48_y0 hi; have y11 := s48_y1 hi; clear hi hb hk) | (go_at_call 37; have X := (computusref03_scan_sign.calls _ s1 b1 58 true s2 b2 w w1 HI1.out HB1.out Q2.out); with_reducible refine X.mono ?_; clear X; rintro e w2 ⟨rfl, hi, hb, hk⟩; have HI2 := Aside0.mk hi; have HB2 := Aside0.mk hb; have z20 := s48_z0 hi; have z21 := s48_z1 hi; have y20 := s48_y0 hi; have y21 := s48_y1 hi; clear hi hb hk) | (go_at_call 36; have X := (computusref03_scan_num.calls k _ s2 b2 2 2 mm s3 b3 w w2 HI2.out HB2.out Q3.out); with_reducible refine X.mono ?_; clear X; rintro e w3 ⟨rfl, hi, hb, hk⟩; have HI3 := Aside0.mk hi; have HB3 := Aside0.mk hb; have z30 := s48_z0 hi; have z31 := s48_z1 hi; have y30 := s48_y0 hi; have y31 := s48_y1 hi; clear hi hb hk) | (go_at_call 37; have X := (computusref03_scan_sign.calls _ s3 b3 58 false s4 false w w3 HI3.out HB3.out Q4.out); with_reducible refine X.mono ?_; clear X; rintro e w4 ⟨rfl, hi, hb, hk⟩; have HI4 := Aside0.mk hi; have HB4 := Aside0.mk hb; have z40 := s48_z0 hi; have z41 := s48_z1 hi; have y40 := s48_y0 hi; have y41 := s48_y1 hi; clear hi hb hk))
          go_ret2
          exact ⟨rfl, HB4.out⟩
        · rw [if_neg hz] at h
          have QM := Aside0.mk h
          have c1 : decide (0 < (s4.size : Int)) = false := decide_eq_false (by omega)
          have c2 : decide (0 < s4.size) = false := decide_eq_false hz
          clear h hz
          go_enter Try.func19, Try.ntmps19
          go_wp2_with (first | (go_at_call 36; have X := (computusref03_scan_num.calls k _ a0 false 1 2 hh s1 b1 w _ (IsS48.new w w a0 false (Below.refl _ _)) (below_alloc (Below.refl _ _) _) Q1.out); with_reducible refine X.mono ?_; clear X; rintro e w1 ⟨rfl, hi, hb, hk⟩; have HI1 := Aside0.mk hi; have HB1 := Aside0.mk hb; have z10 := s48_z0 hi; have z11 := s48_z1 hi; have y10 := s48_y0 hi; have y11 := s48_y1 hi; clear hi hb hk) | (go_at_call 37; have X := (computusref03_scan_sign.calls _ s1 b1 58 true s2 b2 w w1 HI1.out HB1.out Q2.out); with_reducible refine X.mono ?_; clear X; rintro e w2 ⟨rfl, hi, hb, hk⟩; have HI2 := Aside0.mk hi; have HB2 := Aside0.mk hb; have z20 := s48_z0 hi; have z21 := s48_z1 hi; have y20 := s48_y0 hi; have y21 := s48_y1 hi; clear hi hb hk) | (go_at_call 36; have X := (computusref03_scan_num.calls k _ s2 b2 2 2 mm s3 b3 w w2 HI2.out HB2.out Q3.out); with_reducible refine X.mono ?_; clear X; rintro e w3 ⟨rfl, hi, hb, hk⟩; have HI3 := Aside0.mk hi; have HB3 := Aside0.mk hb; have z30 := s48_z0 hi; have z31 := s48_z1 hi; have y30 := s48_y0 hi; have y31 := s48_y1 hi; clear hi hb hk) | (go_at_call 37; have X := (computusref03_scan_sign.calls _ s3 b3 58 false s4 false w w3 HI3.out HB3.out Q4.out); with_reducible refine X.mono ?_; clear X; rintro e w4 ⟨rfl, hi, hb, hk⟩; have HI4 := Aside0.mk hi; have HB4 := Aside0.mk hb; have z40 := s48_z0 hi; have z41 := s48_z1 hi; have y40 := s48_y0 hi; have y41 := s48_y1 hi; clear hi hb hk) | (go_at_call 21; have X := (computusref03_Make.calls k hh mm 0 0 r1 r2 w4 QM.out); with_reducible refine X.mono ?_; clear X; rintro e w9 ⟨rfl, ⟨nd, rfl⟩⟩))
          go_ret2
          exact ⟨rfl, pw_below_drewN HB4.out nd⟩
    | true =>
      have h := H.out
      unfold rdSec at h
      rw [if_pos rfl] at h
      obtain ⟨⟨ss, s5, b5⟩, q5, h⟩ := Option.bind_eq_some_iff.mp h
      obtain ⟨⟨o6, s6, b6⟩, q6, h⟩ := Option.bind_eq_some_iff.mp h
      simp only at q5 q6 h
      have Q5 := Aside0.mk q5
      have Q6 := Aside0.mk q6
      unfold rdFrac at h
      clear H q5 q6
      cases o6 with
      | false =>
        rw [if_neg Bool.false_ne_true] at h
        have H := Aside0.mk h
        clear h
        have h := H.out
        unfold rdEnd at h
        clear H
        cases b6 with
        | true =>
          rw [if_pos rfl] at h
          obtain ⟨N1, N2⟩ := Prod.mk.inj (Option.some.inj h)
          subst N1 N2
          clear h
          go_enter Try.func19, Try.ntmps19
          go_wp2_with (first | (go_at_call 36; have X := (computusref03_scan_num.calls k _ a0 false 1 2 hh s1 b1 w _ (IsS48.new w w a0 false (Below.refl _ _)) (below_alloc (Below.refl _ _) _) Q1.out); with_reducible refine X.mono ?_; clear X; rintro e w1 ⟨rfl, hi, hb, hk⟩; have HI1 := Aside0.mk hi; have HB1 := Aside0.mk hb; have z10 := s48_z0 hi; have z11 := s48_z1 hi; have y10 := s48_y0 hi; have y11 := s48_y1 hi; clear hi hb hk) | (go_at_call 37; have X := (computusref03_scan_sign.calls _ s1 b1 58 true s2 b2 w w1 HI1.out HB1.out Q2.out); with_reducible refine X.mono ?_; clear X; rintro e w2 ⟨rfl, hi, hb, hk⟩; have HI2 := Aside0.mk hi; have HB2 := Aside0.mk hb; have z20 := s48_z0 hi; have z21 := s48_z1 hi; have y20 := s48_y0 hi; have y21 := s48_y1 hi; clear hi hb hk) | (go_at_call 36; have X := (computusref03_scan_num.calls k _ s2 b2 2 2 mm s3 b3 w w2 HI2.out HB2.out Q3.out); with_reducible refine X.mono ?_; clear X; rintro e w3 ⟨rfl, hi, hb, hk⟩; have HI3 := Aside0.mk hi; have HB3 := Aside0.mk hb; have z30 := s48_z0 hi; have z31 := s48_z1 hi; have y30 := s48_y0 hi; have y31 := s48_y1 hi; clear hi hb hk) | (go_at_call 37; have X := (computusref03_scan_sign.calls _ s3 b3 58 true s4 b4 w w3 HI3.out HB3.out Q4.out); with_reducible refine X.mono ?_; clear X; rintro e w4 ⟨rfl, hi, hb, hk⟩; have HI4 := Aside0.mk hi; have HB4 := Aside0.mk hb; have z40 := s48_z0 hi; have z41 := s48_z1 hi; have y40 := s48_y0 hi; have y41 := s48_y1 hi; clear hi hb hk) | (go_at_call 36; have X := (computusref03_scan_num.calls k _ s4 b4 2 2 ss s5 b5 w w4 HI4.out HB4.out Q5.out); with_reducible refine X.mono ?_; clear X; rintro e w5 ⟨rfl, hi, hb, hk⟩; have HI5 := Aside0.mk hi; have HB5 := Aside0.mk hb; have z50 := s48_z0 hi; have z51 := s48_z1 hi; have y50 := s48_y0 hi; have y51 := s48_y1 hi; clear hi hb hk) | (go_at_call 37; have X := (computusref03_scan_sign.calls _ s5 b5 46 false s6 true w w5 HI5.out HB5.out Q6.out); with_reducible refine X.mono ?_; clear X; rintro e w6 ⟨rfl, hi, hb, hk⟩; have HI6 := Aside0.mk hi; have HB6 := Aside0.mk hb; have z60 := s48_z0 hi; have z61 := s48_z1 hi; have y60 := s48_y0 hi; have y61 := s48_y1 hi; clear hi hb hk))
          go_ret2
          exact ⟨rfl, HB6.out⟩
        | false =>
          rw [if_neg Bool.false_ne_true] at h
          by_cases hz : 0 < s6.size
          · rw [if_pos hz] at h
            obtain ⟨N1, N2⟩ := Prod.mk.inj (Option.some.inj h)
            subst N1 N2
            have c1 : decide (0 < (s6.size : Int)) = true := decide_eq_true (by omega)
            have c2 : decide (0 < s6.size) = true := decide_eq_true hz
            clear h hz
            go_enter Try.func19, Try.ntmps19
            go_wp2_with (first | (go_at_call 36; have X := (computusref03_scan_num.calls k _ a0 false 1 2 hh s1 b1 w _ (IsS48.new w w a0 false (Below.refl _ _)) (below_alloc (Below.refl _ _) _) Q1.out); with_reducible refine X.mono ?_; clear X; rintro e w1 ⟨rfl, hi, hb, hk⟩; have HI1 := Aside0.mk hi; have HB1 := Aside0.mk hb; have z10 := s48_z0 hi; have z11 := s48_z1 hi; have y10 := s48_y0 hi; have y11 := s48_y1 hi; clear hi hb hk) | (go_at_call 37; have X := (computusref03_scan_sign.calls _ s1 b1 58 true s2 b2 w w1 HI1.out HB1.out Q2.out); with_reducible refine X.mono ?_; clear X; rintro e w2 ⟨rfl, hi, hb, hk⟩; have HI2 := Aside0.mk hi; have HB2 := Aside0.mk hb; have z20 := s48_z0 hi; have z21 := s48_z1 hi; have y20 := s48_y0 hi; have y21 := s48_y1 hi; clear hi hb hk) | (go_at_call 36; have X := (computusref03_scan_num.calls k _ s2 b2 2 2 mm s3 b3 w w2 HI2.out HB2.out Q3.out); with_reducible refine X.mono ?_; clear X; rintro e w3 ⟨rfl, hi, hb, hk⟩; have HI3 := Aside0.mk hi; have HB3 := Aside0.mk hb; have z30 := s48_z0 hi; have z31 := s48_z1 hi; have y30 := s48_y0 hi; have y31 := s48_y1 hi; clear hi hb hk) | (go_at_call 37; have X := (computusref03_scan_sign.calls _ s3 b3 58 true s4 b4 w w3 HI3.out HB3.out Q4.out); with_reducible refine X.mono ?_; clear X; rintro e w4 ⟨rfl, hi, hb, hk⟩; have HI4 := Aside0.mk hi; have HB4 := Aside0.mk hb; have z40 := s48_z0 hi; have z41 := s48_z1 hi; have y40 := s48_y0 hi; have y41 := s48_y1 hi; clear hi hb hk) | (go_at_call 36; have X := (computusref03_scan_num.calls k _ s4 b4 2 2 ss s5 b5 w w4 HI4.out HB4.out Q5.out); with_reducible refine X.mono ?_; clear X; rintro e w5 ⟨rfl, hi, hb, hk⟩; have HI5 := Aside0.mk hi; have HB5 := Aside0.mk hb; have z50 := s48_z0 hi; have z51 := s48_z1 hi; have y50 := s48_y0 hi; have y51 := s48_y1 hi; clear hi hb hk) | (go_at_call 37; have X := (computusref03_scan_sign.calls _ s5 b5 46 false s6 false w w5 HI5.out HB5.out Q6.out); with_reducible refine X.mono ?_; clear X; rintro e w6 ⟨rfl, hi, hb, hk⟩; have HI6 := Aside0.mk hi; have HB6 := Aside0.mk hb; have z60 := s48_z0 hi; have z61 := s48_z1 hi; have y60 := s48_y0 hi; have y61 := s48_y1 hi; clear hi hb hk))
            go_ret2
            exact ⟨rfl, HB6.out⟩
          · rw [if_neg hz] at h
            have QM := Aside0.mk h
            have c1 : decide (0 < (s6.size : Int)) = false := decide_eq_false (by omega)
            have c2 : decide (0 < s6.size) = false := decide_eq_false hz
            clear h hz
            go_enter Try.func19, Try.ntmps19
            go_wp2_with (first | (go_at_call 36; have X := (computusref03_scan_num.calls k _ a0 false 1 2 hh s1 b1 w _ (IsS48.new w w a0 false (Below.refl _ _)) (below_alloc (Below.refl _ _) _) Q1.out); with_reducible refine X.mono ?_; clear X; rintro e w1 ⟨rfl, hi, hb, hk⟩; have HI1 := Aside0.mk hi; have HB1 := Aside0.mk hb; have z10 := s48_z0 hi; have z11 := s48_z1 hi; have y10 := s48_y0 hi; have y11 := s48_y1 hi; clear hi hb hk) | (go_at_call 37; have X := (computusref03_scan_sign.calls _ s1 b1 58 true s2 b2 w w1 HI1.out HB1.out Q2.out); with_reducible refine X.mono ?_; clear X; rintro e w2 ⟨rfl, hi, hb, hk⟩; have HI2 := Aside0.mk hi; have HB2 := Aside0.mk hb; have z20 := s48_z0 hi; have z21 := s48_z1 hi; have y20 := s48_y0 hi; have y21 := s48_y1 hi; clear hi hb hk) | (go_at_call 36; have X := (computusref03_scan_num.calls k _ s2 b2 2 2 mm s3 b3 w w2 HI2.out HB2.out Q3.out); with_reducible refine X.mono ?_; clear X; rintro e w3 ⟨rfl, hi, hb, hk⟩; have HI3 := Aside0.mk hi; have HB3 := Aside0.mk hb; have z30 := s48_z0 hi; have z31 := s48_z1 hi; have y30 := s48_y0 hi; have y31 := s48_y1 hi; clear hi hb hk) | (go_at_call 37; have X := (computusref03_scan_sign.calls _ s3 b3 58 true s4 b4 w w3 HI3.out HB3.out Q4.out); with_reducible refine X.mono ?_; clear X; rintro e w4 ⟨rfl, hi, hb, hk⟩; have HI4 := Aside0.mk hi; have HB4 := Aside0.mk hb; have z40 := s48_z0 hi; have z41 := s48_z1 hi; have y40 := s48_y0 hi; have y41 := s48_y1 hi; clear hi hb hk) | (go_at_call 36; have X := (computusref03_scan_num.calls k _ s4 b4 2 2 ss s5 b5 w w4 HI4.out HB4.out Q5.out); with_reducible refine X.mono ?_; clear X; rintro e w5 ⟨rfl, hi, hb, hk⟩; have HI5 := Aside0.mk hi; have HB5 := Aside0.mk hb; have z50 := s48_z0 hi; have z51 := s48_z1 hi; have y50 := s48_y0 hi; have y51 := s48_y1 hi; clear hi hb hk) | (go_at_call 37; have X := (computusref03_scan_sign.calls _ s5 b5 46 false s6 false w w5 HI5.out HB5.out Q6.out); with_reducible refine X.mono ?_; clear X; rintro e w6 ⟨rfl, hi, hb, hk⟩; have HI6 := Aside0.mk hi; have HB6 := Aside0.mk hb; have z60 := s48_z0 hi; have z61 := s48_z1 hi; have y60 := s48_y0 hi; have y61 := s48_y1 hi; clear hi hb hk) | (go_at_call 21; have X := (computusref03_Make.calls k hh mm ss 0 r1 r2 w6 QM.out); with_reducible refine X.mono ?_; clear X; rintro e w9 ⟨rfl, ⟨nd, rfl⟩⟩))
            go_ret2
            exact ⟨rfl, pw_below_drewN HB6.out nd⟩
      | true =>
        rw [if_pos rfl] at h
        obtain ⟨⟨u0, s7, b7⟩, q7, h⟩ := Option.bind_eq_some_iff.mp h
        simp only at q7 h
        have Q7 := Aside0.mk q7
        clear q7
        by_cases hsz : s6.size ≤ 140737488355328 ∧ s7.size ≤ 140737488355328
        · rw [if_pos hsz] at h
          obtain ⟨us, qu, h⟩ := Option.bind_eq_some_iff.mp h
          obtain ⟨hz6, hz7⟩ := hsz
          have H := Aside0.mk h
          have QU := Aside0.mk qu
          clear h qu
          go_enter Try.func19, Try.ntmps19
          go_wp2_with (first | (go_at_call 36; have X := (computusref03_scan_num.calls k _ a0 false 1 2 hh s1 b1 w _ (IsS48.new w w a0 false (Below.refl _ _)) (below_alloc (Below.refl _ _) _) Q1.out); with_reducible refine X.mono ?_; clear X; rintro e w1 ⟨rfl, hi, hb, hk⟩; have HI1 := Aside0.mk hi; have HB1 := Aside0.mk hb; have z10 := s48_z0 hi; have z11 := s48_z1 hi; have y10 := s48_y0 hi; have y11 := s48_y1 hi; clear hi hb hk) | (go_at_call 37; have X := (computusref03_scan_sign.calls _ s1 b1 58 true s2 b2 w w1 HI1.out HB1.out Q2.out); with_reducible refine X.mono ?_; clear X; rintro e w2 ⟨rfl, hi, hb, hk⟩; have HI2 := Aside0.mk hi; have HB2 := Aside0.mk hb; have z20 := s48_z0 hi; have z21 := s48_z1 hi; have y20 := s48_y0 hi; have y21 := s48_y1 hi; clear hi hb hk) | (go_at_call 36; have X := (computusref03_scan_num.calls k _ s2 b2 2 2 mm s3 b3 w w2 HI2.out HB2.out Q3.out); with_reducible refine X.mono ?_; clear X; rintro e w3 ⟨rfl, hi, hb, hk⟩; have HI3 := Aside0.mk hi; have HB3 := Aside0.mk hb; have z30 := s48_z0 hi; have z31 := s48_z1 hi; have y30 := s48_y0 hi; have y31 := s48_y1 hi; clear hi hb hk) | (go_at_call 37; have X := (computusref03_scan_sign.calls _ s3 b3 58 true s4 b4 w w3 HI3.out HB3.out Q4.out); with_reducible refine X.mono ?_; clear X; rintro e w4 ⟨rfl, hi, hb, hk⟩; have HI4 := Aside0.mk hi; have HB4 := Aside0.mk hb; have z40 := s48_z0 hi; have z41 := s48_z1 hi; have y40 := s48_y0 hi; have y41 := s48_y1 hi; clear hi hb hk) | (go_at_call 36; have X := (computusref03_scan_num.calls k _ s4 b4 2 2 ss s5 b5 w w4 HI4.out HB4.out Q5.out); with_reducible refine X.mono ?_; clear X; rintro e w5 ⟨rfl, hi, hb, hk⟩; have HI5 := Aside0.mk hi; have HB5 := Aside0.mk hb; have z50 := s48_z0 hi; have z51 := s48_z1 hi; have y50 := s48_y0 hi; have y51 := s48_y1 hi; clear hi hb hk) | (go_at_call 37; have X := (computusref03_scan_sign.calls _ s5 b5 46 true s6 b6 w w5 HI5.out HB5.out Q6.out); with_reducible refine X.mono ?_; clear X; rintro e w6 ⟨rfl, hi, hb, hk⟩; have HI6 := Aside0.mk hi; have HB6 := Aside0.mk hb; have z60 := s48_z0 hi; have z61 := s48_z1 hi; have y60 := s48_y0 hi; have y61 := s48_y1 hi; clear hi hb hk) | (go_at_call 36; have X := (computusref03_scan_num.calls k _ s6 b6 1 6 u0 s7 b7 w w6 HI6.out HB6.out Q7.out); with_reducible refine X.mono ?_; clear X; rintro e w7 ⟨rfl, hi, hb, hk⟩; have HI7 := Aside0.mk hi; have HB7 := Aside0.mk hb; have z70 := s48_z0 hi; have z71 := s48_z1 hi; have y70 := s48_y0 hi; have y71 := s48_y1 hi; clear hi hb hk))
          go_loopg [8, 10] 10 (fun kq v8 v10 w' => ∃ u j : Int, v8 = .int .i64 u ∧ v10 = .int .i64 j ∧ Aside0 (rdUs kq u j = some us) ∧ Aside0 (IsS48 w w' w.heap.size s7 b7) ∧ Aside0 (Below w.heap.size w w'))
          case atStart => exact ⟨u0, _, rfl, rfl, QU, HI7, HB7⟩
          case round =>
            clear QU
            obtain ⟨u, j, rfl, rfl, HA, HI, HB⟩ := hrel
            have hA := HA.out
            cases gk with
            | zero => exact absurd hA (by simp [rdUs])
            | succ k1 =>
              rw [rdUs] at hA
              by_cases hj : j < 6
              · rw [if_pos hj] at hA
                by_cases hg : 0 ≤ j ∧ 0 ≤ u ∧ u ≤ 999999
                · rw [if_pos hg] at hA
                  obtain ⟨hg1, hg2, hg3⟩ := hg
                  have c1 : decide (j < 6) = true := decide_eq_true hj
                  have HA2 := Aside0.mk hA
                  clear hA HA
                  go_wp2
                  go_roundg k1
                  case measure => omega
                  case rel => exact ⟨_, _, rfl, rfl, HA2, HI, HB⟩
                · rw [if_neg hg] at hA
                  cases hA
              · rw [if_neg hj] at hA
                obtain rfl := Option.some.inj hA
                have c0 : decide (j < 6) = false := decide_eq_false hj
                have z0 := s48_z0 HI.out
                have z1 := s48_z1 HI.out
                have y0 := s48_y0 HI.out
                have y1 := s48_y1 HI.out
                have h := H.out
                unfold rdEnd at h
                clear H hA HA
                cases b7 with
                | true =>
                  rw [if_pos rfl] at h
                  obtain ⟨N1, N2⟩ := Prod.mk.inj (Option.some.inj h)
                  subst N1 N2
                  clear h
                  go_wp2
                  go_ret2
                  exact ⟨rfl, HB.out⟩
                | false =>
                  rw [if_neg Bool.false_ne_true] at h
                  by_cases hz : 0 < s7.size
                  · rw [if_pos hz] at h
                    obtain ⟨N1, N2⟩ := Prod.mk.inj (Option.some.inj h)
                    subst N1 N2
                    have c1 : decide (0 < (s7.size : Int)) = true := decide_eq_true (by omega)
                    have c2 : decide (0 < s7.size) = true := decide_eq_true hz
                    clear h hz
                    go_wp2
                    go_ret2
                    exact ⟨rfl, HB.out⟩
                  · rw [if_neg hz] at h
                    have QM := Aside0.mk h
                    have c1 : decide (0 < (s7.size : Int)) = false := decide_eq_false (by omega)
                    have c2 : decide (0 < s7.size) = false := decide_eq_false hz
                    clear h hz
                    go_wp2_with ((go_at_call 21; have X := (computusref03_Make.calls k hh mm ss u r1 r2 wr QM.out); with_reducible refine X.mono ?_; clear X; rintro e w9 ⟨rfl, ⟨nd, rfl⟩⟩))
                    go_ret2
                    exact ⟨rfl, pw_below_drewN HB.out nd⟩
        · rw [if_neg hsz] at h
          cases h
  | false =>
    have Q3' := Q3.out
    rw [if_neg Bool.false_ne_true] at Q3'
    replace Q3 := Aside0.mk Q3'
    clear Q3'
    cases o4 with
    | false =>
      have h := H.out
      unfold rdSec at h
      rw [if_neg Bool.false_ne_true] at h
      replace H := Aside0.mk h
      clear h
      have h := H.out
      unfold rdEnd at h
      clear H
      cases b4 with
      | true =>
        rw [if_pos rfl] at h
        obtain ⟨N1, N2⟩ := Prod.mk.inj (Option.some.inj h)
        subst N1 N2
        clear h
        go_enter Try.func19, Try.ntmps19
        go_wp2_with (first | (go_at_call 36; have X := (computusref03_scan_num.calls k _ a0 false 1 2 hh s1 b1 w _ (IsS48.new w w a0 false (Below.refl _ _)) (below_alloc (Below.refl _ _) _) Q1.out); with_reducible refine X.mono ?_; clear X; rintro e w1 ⟨rfl, hi, hb, hk⟩; have HI1 := Aside0.mk hi; have HB1 := Aside0.mk hb; have z10 := s48_z0 hi; have z11 := s48_z1 hi; have y10 := s48_y0 hi; have y11 := s48_y1 hi; clear hi hb hk) | (go_at_call 37; have X := (computusref03_scan_sign.calls _ s1 b1 58 false s2 b2 w w1 HI1.out HB1.out Q2.out); with_reducible refine X.mono ?_; clear X; rintro e w2 ⟨rfl, hi, hb, hk⟩; have HI2 := Aside0.mk hi; have HB2 := Aside0.mk hb; have z20 := s48_z0 hi; have z21 := s48_z1 hi; have y20 := s48_y0 hi; have y21 := s48_y1 hi; clear hi hb hk) | (go_at_call 36; have X := (computusref03_scan_num.calls k _ s2 true 2 2 mm s3 b3 w _ (IsS48.set_1 HI2.out true) (below_set HB2.out (IsS48.ge HI2.out)) Q3.out); with_reducible refine X.mono ?_; clear X; rintro e w3 ⟨rfl, hi, hb, hk⟩; have HI3 := Aside0.mk hi; have HB3 := Aside0.mk hb; have z30 := s48_z0 hi; have z31 := s48_z1 hi; have y30 := s48_y0 hi; have y31 := s48_y1 hi; clear hi hb hk) | (go_at_call 37; have X := (computusref03_scan_sign.calls _ s3 b3 58 false s4 true w w3 HI3.out HB3.out Q4.out); with_reducible refine X.mono ?_; clear X; rintro e w4 ⟨rfl, hi, hb, hk⟩; have HI4 := Aside0.mk hi; have HB4 := Aside0.mk hb; have z40 := s48_z0 hi; have z41 := s48_z1 hi; have y40 := s48_y0 hi; have y41 := s48_y1 hi; clear hi hb hk))
        go_ret2
        exact ⟨rfl, HB4.out⟩
      | false =>
        rw [if_neg Bool.false_ne_true] at h
        by_cases hz : 0 < s4.size
        · rw [if_pos hz] at h
          obtain ⟨N1, N2⟩ := Prod.mk.inj (Option.some.inj h)
          subst N1 N2
          have c1 : decide (0 < (s4.size : Int)) = true := decide_eq_true (by omega)
          have c2 : decide (0 < s4.size) = true := decide_eq_true hz
          clear h hz
          go_enter Try.func19, Try.ntmps19
          go_wp2_with (first | (go_at_call 36; have X := (computusref03_scan_num.calls k _ a0 false 1 2 hh s1 b1 w _ (IsS48.new w w a0 false (Below.refl _ _)) (below_alloc (Below.refl _ _) _) Q1.out); with_reducible refine X.mono ?_; clear X; rintro e w1 ⟨rfl, hi, hb, hk⟩; have HI1 := Aside0.mk hi; have HB1 := Aside0.mk hb; have z10 := s48_z0 hi; have z11 := s48_z1 hi; have y10 := s48_y0 hi; have y11 := s48_y1 hi; clear hi hb hk) | (go_at_call 37; have X := (computusref03_scan_sign.calls _ s1 b1 58 false s2 b2 w w1 HI1.out HB1.out Q2.out); with_reducible refine X.mono ?_; clear X; rintro e w2 ⟨rfl, hi, hb, hk⟩; have HI2 := Aside0.mk hi; have HB2 := Aside0.mk hb; have z20 := s48_z0 hi; have z21 := s48_z1 hi; have y20 := s48_y0 hi; have y21 := s48_y1 hi; clear hi hb hk) | (go_at_call 36; have X := (computusref03_scan_num.calls k _ s2 true 2 2 mm s3 b3 w _ (IsS48.set_1 HI2.out true) (below_set HB2.out (IsS48.ge HI2.out)) Q3.out); with_reducible refine X.mono ?_; clear X; rintro e w3 ⟨rfl, hi, hb, hk⟩; have HI3 := Aside0.mk hi; have HB3 := Aside0.mk hb; have z30 := s48_z0 hi; have z31 := s48_z1 hi; have y30 := s48_y0 hi; have y31 := s48_y1 hi; clear hi hb hk) | (go_at_call 37; have X := (computusref03_scan_sign.calls _ s3 b3 58 false s4 false w w3 HI3.out HB3.out Q4.out); with_reducible refine X.mono ?_; clear X; rintro e w4 ⟨rfl, hi, hb, hk⟩; have HI4 := Aside0.mk hi; have HB4 := Aside0.mk hb; have z40 := s48_z0 hi; have z41 := s48_z1 hi; have y40 := s48_y0 hi; have y41 := s48_y1 hi; clear hi hb hk))
          go_ret2
          exact ⟨rfl, HB4.out⟩
        · rw [if_neg hz] at h
          have QM := Aside0.mk h
          have c1 : decide (0 < (s4.size : Int)) = false := decide_eq_false (by omega)
          have c2 : decide (0 < s4.size) = false := decide_eq_false hz
          clear h hz
          go_enter Try.func19, Try.ntmps19
          go_wp2_with (first | (go_at_call 36; have X := (computusref03_scan_num.calls k _ a0 false 1 2 hh s1 b1 w _ (IsS48.new w w a0 false (Below.refl _ _)) (below_alloc (Below.refl _ _) _) Q1.out); with_reducible refine X.mono ?_; clear X; rintro e w1 ⟨rfl, hi, hb, hk⟩; have HI1 := Aside0.mk hi; have HB1 := Aside0.mk hb; have z10 := s48_z0 hi; have z11 := s48_z1 hi; have y10 := s48_y0 hi; have y11 := s48_y1 hi; clear hi hb hk) | (go_at_call 37; have X := (computusref03_scan_sign.calls _ s1 b1 58 false s2 b2 w w1 HI1.out HB1.out Q2.out); with_reducible refine X.mono ?_; clear X; rintro e w2 ⟨rfl, hi, hb, hk⟩; have HI2 := Aside0.mk hi; have HB2 := Aside0.mk hb; have z20 := s48_z0 hi; have z21 := s48_z1 hi; have y20 := s48_y0 hi; have y21 := s48_y1 hi; clear hi hb hk) | (go_at_call 36; have X := (computusref03_scan_num.calls k _ s2 true 2 2 mm s3 b3 w _ (IsS48.set_1 HI2.out true) (below_set HB2.out (IsS48.ge HI2.out)) Q3.out); with_reducible refine X.mono ?_; clear X; rintro e w3 ⟨rfl, hi, hb, hk⟩; have HI3 := Aside0.mk hi; have HB3 := Aside0.mk hb; have z30 := s48_z0 hi; have z31 := s48_z1 hi; have y30 := s48_y0 hi; have y31 := s48_y1 hi; clear hi hb hk) | (go_at_call 37; have X := (computusref03_scan_sign.calls _ s3 b3 58 false s4 false w w3 HI3.out HB3.out Q4.out); with_reducible refine X.mono ?_; clear X; rintro e w4 ⟨rfl, hi, hb, hk⟩; have HI4 := Aside0.mk hi; have HB4 := Aside0.mk hb; have z40 := s48_z0 hi; have z41 := s48_z1 hi; have y40 := s48_y0 hi; have y41 := s48_y1 hi; clear hi hb hk) | (go_at_call 21; have X := (computusref03_Make.calls k hh mm 0 0 r1 r2 w4 QM.out); with_reducible refine X.mono ?_; clear X; rintro e w9 ⟨rfl, ⟨nd, rfl⟩⟩))
          go_ret2
          exact ⟨rfl, pw_below_drewN HB4.out nd⟩
    | true =>
      have h := H.out
      unfold rdSec at h
      rw [if_pos rfl] at h
      obtain ⟨⟨ss, s5, b5⟩, q5, h⟩ := Option.bind_eq_some_iff.mp h
      obtain ⟨⟨o6, s6, b6⟩, q6, h⟩ := Option.bind_eq_some_iff.mp h
      simp only at q5 q6 h
      have Q5 := Aside0.mk q5
      have Q6 := Aside0.mk q6
      unfold rdFrac at h
      clear H q5 q6
      cases o6 with
      | false =>
        rw [if_neg Bool.false_ne_true] at h
        have H := Aside0.mk h
        clear h
        have h := H.out
        unfold rdEnd at h
        clear H
        cases b6 with
        | true =>
          rw [if_pos rfl] at h
          obtain ⟨N1, N2⟩ := Prod.mk.inj (Option.some.inj h)
          subst N1 N2
          clear h
          go_enter Try.func19, Try.ntmps19
          go_wp2_with (first | (go_at_call 36; have X := (computusref03_scan_num.calls k _ a0 false 1 2 hh s1 b1 w _ (IsS48.new w w a0 false (Below.refl _ _)) (below_alloc (Below.refl _ _) _) Q1.out); with_reducible refine X.mono ?_; clear X; rintro e w1 ⟨rfl, hi, hb, hk⟩; have HI1 := Aside0.mk hi; have HB1 := Aside0.mk hb; have z10 := s48_z0 hi; have z11 := s48_z1 hi; have y10 := s48_y0 hi; have y11 := s48_y1 hi; clear hi hb hk) | (go_at_call 37; have X := (computusref03_scan_sign.calls _ s1 b1 58 false s2 b2 w w1 HI1.out HB1.out Q2.out); with_reducible refine X.mono ?_; clear X; rintro e w2 ⟨rfl, hi, hb, hk⟩; have HI2 := Aside0.mk hi; have HB2 := Aside0.mk hb; have z20 := s48_z0 hi; have z21 := s48_z1 hi; have y20 := s48_y0 hi; have y21 := s48_y1 hi; clear hi hb hk) | (go_at_call 36; have X := (computusref03_scan_num.calls k _ s2 true 2 2 mm s3 b3 w _ (IsS48.set_1 HI2.out true) (below_set HB2.out (IsS48.ge HI2.out)) Q3.out); with_reducible refine X.mono ?_; clear X; rintro e w3 ⟨rfl, hi, hb, hk⟩; have HI3 := Aside0.mk hi; have HB3 := Aside0.mk hb; have z30 := s48_z0 hi; have z31 := s48_z1 hi; have y30 := s48_y0 hi; have y31 := s48_y1 hi; clear hi hb hk) | (go_at_call 37; have X := (computusref03_scan_sign.calls _ s3 b3 58 true s4 b4 w w3 HI3.out HB3.out Q4.out); with_reducible refine X.mono ?_; clear X; rintro e w4 ⟨rfl, hi, hb, hk⟩; have HI4 := Aside0.mk hi; have HB4 := Aside0.mk hb; have z40 := s48_z0 hi; have z41 := s48_z1 hi; have y40 := s48_y0 hi; have y41 := s48_y1 hi; clear hi hb hk) | (go_at_call 36; have X := (computusref03_scan_num.calls k _ s4 b4 2 2 ss s5 b5 w w4 HI4.out HB4.out Q5.out); with_reducible refine X.mono ?_; clear X; rintro e w5 ⟨rfl, hi, hb, hk⟩; have HI5 := Aside0.mk hi; have HB5 := Aside0.mk hb; have z50 := s48_z0 hi; have z51 := s48_z1 hi; have y50 := s48_y0 hi; have y51 := s48_y1 hi; clear hi hb hk) | (go_at_call 37; have X := (computusref03_scan_sign.calls _ s5 b5 46 false s6 true w w5 HI5.out HB5.out Q6.out); with_reducible refine X.mono ?_; clear X; rintro e w6 ⟨rfl, hi, hb, hk⟩; have HI6 := Aside0.mk hi; have HB6 := Aside0.mk hb; have z60 := s48_z0 hi; have z61 := s48_z1 hi; have y60 := s48_y0 hi; have y61 := s48_y1 hi; clear hi hb hk))
          go_ret2
          exact ⟨rfl, HB6.out⟩
        | false =>
          rw [if_neg Bool.false_ne_true] at h
          by_cases hz : 0 < s6.size
          · rw [if_pos hz] at h
            obtain ⟨N1, N2⟩ := Prod.mk.inj (Option.some.inj h)
            subst N1 N2
            have c1 : decide (0 < (s6.size : Int)) = true := decide_eq_true (by omega)
            have c2 : decide (0 < s6.size) = true := decide_eq_true hz
            clear h hz
            go_enter Try.func19, Try.ntmps19
            go_wp2_with (first | (go_at_call 36; have X := (computusref03_scan_num.calls k _ a0 false 1 2 hh s1 b1 w _ (IsS48.new w w a0 false (Below.refl _ _)) (below_alloc (Below.refl _ _) _) Q1.out); with_reducible refine X.mono ?_; clear X; rintro e w1 ⟨rfl, hi, hb, hk⟩; have HI1 := Aside0.mk hi; have HB1 := Aside0.mk hb; have z10 := s48_z0 hi; have z11 := s48_z1 hi; have y10 := s48_y0 hi; have y11 := s48_y1 hi; clear hi hb hk) | (go_at_call 37; have X := (computusref03_scan_sign.calls _ s1 b1 58 false s2 b2 w w1 HI1.out HB1.out Q2.out); with_reducible refine X.mono ?_; clear X; rintro e w2 ⟨rfl, hi, hb, hk⟩; have HI2 := Aside0.mk hi; have HB2 := Aside0.mk hb; have z20 := s48_z0 hi; have z21 := s48_z1 hi; have y20 := s48_y0 hi; have y21 := s48_y1 hi; clear hi hb hk) | (go_at_call 36; have X := (computusref03_scan_num.calls k _ s2 true 2 2 mm s3 b3 w _ (IsS48.set_1 HI2.out true) (below_set HB2.out (IsS48.ge HI2.out)) Q3.out); with_reducible refine X.mono ?_; clear X; rintro e w3 ⟨rfl, hi, hb, hk⟩; have HI3 := Aside0.mk hi; have HB3 := Aside0.mk hb; have z30 := s48_z0 hi; have z31 := s48_z1 hi; have y30 := s48_y0 hi; have y31 := s48_y1 hi; clear hi hb hk) | (go_at_call 37; have X := (computusref03_scan_sign.calls _ s3 b3 58 true s4 b4 w w3 HI3.out HB3.out Q4.out); with_reducible refine X.mono ?_; clear X; rintro e w4 ⟨rfl, hi, hb, hk⟩; have HI4 := Aside0.mk hi; have HB4 := Aside0.mk hb; have z40 := s48_z0 hi; have z41 := s48_z1 hi; have y40 := s48_y0 hi; have y41 := s48_y1 hi; clear hi hb hk) | (go_at_call 36; have X := (computusref03_scan_num.calls k _ s4 b4 2 2 ss s5 b5 w w4 HI4.out HB4.out Q5.out); with_reducible refine X.mono ?_; clear X; rintro e w5 ⟨rfl, hi, hb, hk⟩; have HI5 := Aside0.mk hi; have HB5 := Aside0.mk hb; have z50 := s48_z0 hi; have z51 := s48_z1 hi; have y50 := s48_y0 hi; have y51 := s48_y1 hi; clear hi hb hk) | (go_at_call 37; have X := (computusref03_scan_sign.calls _ s5 b5 46 false s6 false w w5 HI5.out HB5.out Q6.out); with_reducible refine X.mono ?_; clear X; rintro e w6 ⟨rfl, hi, hb, hk⟩; have HI6 := Aside0.mk hi; have HB6 := Aside0.mk hb; have z60 := s48_z0 hi; have z61 := s48_z1 hi; have y60 := s48_y0 hi; have y61 := s48_y1 hi; clear hi hb hk))
            go_ret2
            exact ⟨rfl, HB6.out⟩
          · rw [if_neg hz] at h
            have QM := Aside0.mk h
            have c1 : decide (0 < (s6.size : Int)) = false := decide_eq_false (by omega)
            have c2 : decide (0 < s6.size) = false := decide_eq_false hz
            clear h hz
            go_enter Try.func19, Try.ntmps19
            go_wp2_with (first | (go_at_call 36; have X := (computusref03_scan_num.calls k _ a0 false 1 2 hh s1 b1 w _ (IsS48.new w w a0 false (Below.refl _ _)) (below_alloc (Below.refl _ _) _) Q1.out); with_reducible refine X.mono ?_; clear X; rintro e w1 ⟨rfl, hi, hb, hk⟩; have HI1 := Aside0.mk hi; have HB1 := Aside0.mk hb; have z10 := s48_z0 hi; have z11 := s48_z1 hi; have y10 := s48_y0 hi; have y11 := s48_y1 hi; clear hi hb hk) | (go_at_call 37; have X := (computusref03_scan_sign.calls _ s1 b1 58 false s2 b2 w w1 HI1.out HB1.out Q2.out); with_reducible refine X.mono ?_; clear X; rintro e w2 ⟨rfl, hi, hb, hk⟩; have HI2 := Aside0.mk hi; have HB2 := Aside0.mk hb; have z20 := s48_z0 hi; have z21 := s48_z1 hi; have y20 := s48_y0 hi; have y21 := s48_y1 hi; clear hi hb hk) | (go_at_call 36; have X := (computusref03_scan_num.calls k _ s2 true 2 2 mm s3 b3 w _ (IsS48.set_1 HI2.out true) (below_set HB2.out (IsS48.ge HI2.out)) Q3.out); with_reducible refine X.mono ?_; clear X; rintro e w3 ⟨rfl, hi, hb, hk⟩; have HI3 := Aside0.mk hi; have HB3 := Aside0.mk hb; have z30 := s48_z0 hi; have z31 := s48_z1 hi; have y30 := s48_y0 hi; have y31 := s48_y1 hi; clear hi hb hk) | (go_at_call 37; have X := (computusref03_scan_sign.calls _ s3 b3 58 true s4 b4 w w3 HI3.out HB3.out Q4.out); with_reducible refine X.mono ?_; clear X; rintro e w4 ⟨rfl, hi, hb, hk⟩; have HI4 := Aside0.mk hi; have HB4 := Aside0.mk hb; have z40 := s48_z0 hi; have z41 := s48_z1 hi; have y40 := s48_y0 hi; have y41 := s48_y1 hi; clear hi hb hk) | (go_at_call 36; have X := (computusref03_scan_num.calls k _ s4 b4 2 2 ss s5 b5 w w4 HI4.out HB4.out Q5.out); with_reducible refine X.mono ?_; clear X; rintro e w5 ⟨rfl, hi, hb, hk⟩; have HI5 := Aside0.mk hi; have HB5 := Aside0.mk hb; have z50 := s48_z0 hi; have z51 := s48_z1 hi; have y50 := s48_y0 hi; have y51 := s48_y1 hi; clear hi hb hk) | (go_at_call 37; have X := (computusref03_scan_sign.calls _ s5 b5 46 false s6 false w w5 HI5.out HB5.out Q6.out); with_reducible refine X.mono ?_; clear X; rintro e w6 ⟨rfl, hi, hb, hk⟩; have HI6 := Aside0.mk hi; have HB6 := Aside0.mk hb; have z60 := s48_z0 hi; have z61 := s48_z1 hi; have y60 := s48_y0 hi; have y61 := s48_y1 hi; clear hi hb hk) | (go_at_call 21; have X := (computusref03_Make.calls k hh mm ss 0 r1 r2 w6 QM.out); with_reducible refine X.mono ?_; clear X; rintro e w9 ⟨rfl, ⟨nd, rfl⟩⟩))
            go_ret2
            exact ⟨rfl, pw_below_drewN HB6.out nd⟩
      | true =>
        rw [if_pos rfl] at h
        obtain ⟨⟨u0, s7, b7⟩, q7, h⟩ := Option.bind_eq_some_iff.mp h
        simp only at q7 h
        have Q7 := Aside0.mk q7
        clear q7
        by_cases hsz : s6.size ≤ 140737488355328 ∧ s7.size ≤ 140737488355328
        · rw [if_pos hsz] at h
          obtain ⟨us, qu, h⟩ := Option.bind_eq_some_iff.mp h
          obtain ⟨hz6, hz7⟩ := hsz
          have H := Aside0.mk h
          have QU := Aside0.mk qu
          clear h qu
          go_enter Try.func19, Try.ntmps19
          go_wp2_with (first | (go_at_call 36; have X := (computusref03_scan_num.calls k _ a0 false 1 2 hh s1 b1 w _ (IsS48.new w w a0 false (Below.refl _ _)) (below_alloc (Below.refl _ _) _) Q1.out); with_reducible refine X.mono ?_; clear X; rintro e w1 ⟨rfl, hi, hb, hk⟩; have HI1 := Aside0.mk hi; have HB1 := Aside0.mk hb; have z10 := s48_z0 hi; have z11 := s48_z1 hi; have y10 := s48_y0 hi; have y11 := s48_y1 hi; clear hi hb hk) | (go_at_call 37; have X := (computusref03_scan_sign.calls _ s1 b1 58 false s2 b2 w w1 HI1.out HB1.out Q2.out); with_reducible refine X.mono ?_; clear X; rintro e w2 ⟨rfl, hi, hb, hk⟩; have HI2 := Aside0.mk hi; have HB2 := Aside0.mk hb; have z20 := s48_z0 hi; have z21 := s48_z1 hi; have y20 := s48_y0 hi; have y21 := s48_y1 hi; clear hi hb hk) | (go_at_call 36; have X := (computusref03_scan_num.calls k _ s2 true 2 2 mm s3 b3 w _ (IsS48.set_1 HI2.out true) (below_set HB2.out (IsS48.ge HI2.out)) Q3.out); with_reducible refine X.mono ?_; clear X; rintro e w3 ⟨rfl, hi, hb, hk⟩; have HI3 := Aside0.mk hi; have HB3 := Aside0.mk hb; have z30 := s48_z0 hi; have z31 := s48_z1 hi; have y30 := s48_y0 hi; have y31 := s48_y1 hi; clear hi hb hk) | (go_at_call 37; have X := (computusref03_scan_sign.calls _ s3 b3 58 true s4 b4 w w3 HI3.out HB3.out Q4.out); with_reducible refine X.mono ?_; clear X; rintro e w4 ⟨rfl, hi, hb, hk⟩; have HI4 := Aside0.mk hi; have HB4 := Aside0.mk hb; have z40 := s48_z0 hi; have z41 := s48_z1 hi; have y40 := s48_y0 hi; have y41 := s48_y1 hi; clear hi hb hk) | (go_at_call 36; have X := (computusref03_scan_num.calls k _ s4 b4 2 2 ss s5 b5 w w4 HI4.out HB4.out Q5.out); with_reducible refine X.mono ?_; clear X; rintro e w5 ⟨rfl, hi, hb, hk⟩; have HI5 := Aside0.mk hi; have HB5 := Aside0.mk hb; have z50 := s48_z0 hi; have z51 := s48_z1 hi; have y50 := s48_y0 hi; have y51 := s48_y1 hi; clear hi hb hk) | (go_at_call 37; have X := (computusref03_scan_sign.calls _ s5 b5 46 true s6 b6 w w5 HI5.out HB5.out Q6.out); with_reducible refine X.mono ?_; clear X; rintro e w6 ⟨rfl, hi, hb, hk⟩; have HI6 := Aside0.mk hi; have HB6 := Aside0.mk hb; have z60 := s48_z0 hi; have z61 := s48_z1 hi; have y60 := s48_y0 hi; have y61 := s48_y1 hi; clear hi hb hk) | (go_at_call 36; have X := (computusref03_scan_num.calls k _ s6 b6 1 6 u0 s7 b7 w w6 HI6.out HB6.out Q7.out); with_reducible refine X.mono ?_; clear X; rintro e w7 ⟨rfl, hi, hb, hk⟩; have HI7 := Aside0.mk hi; have HB7 := Aside0.mk hb; have z70 := s48_z0 hi; have z71 := s48_z1 hi; have y70 := s48_y0 hi; have y71 := s48_y1 hi; clear hi hb hk))
          go_loopg [8, 10] 10 (fun kq v8 v10 w' => ∃ u j : Int, v8 = .int .i64 u ∧ v10 = .int .i64 j ∧ Aside0 (rdUs kq u j = some us) ∧ Aside0 (IsS48 w w' w.heap.size s7 b7) ∧ Aside0 (Below w.heap.size w w'))
          case atStart => exact ⟨u0, _, rfl, rfl, QU, HI7, HB7⟩
          case round =>
            clear QU
            obtain ⟨u, j, rfl, rfl, HA, HI, HB⟩ := hrel
            have hA := HA.out
            cases gk with
            | zero => exact absurd hA (by simp [rdUs])
            | succ k1 =>
              rw [rdUs] at hA
              by_cases hj : j < 6
              · rw [if_pos hj] at hA
                by_cases hg : 0 ≤ j ∧ 0 ≤ u ∧ u ≤ 999999
                · rw [if_pos hg] at hA
                  obtain ⟨hg1, hg2, hg3⟩ := hg
                  have c1 : decide (j < 6) = true := decide_eq_true hj
                  have HA2 := Aside0.mk hA
                  clear hA HA
                  go_wp2
                  go_roundg k1
                  case measure => omega
                  case rel => exact ⟨_, _, rfl, rfl, HA2, HI, HB⟩
                · rw [if_neg hg] at hA
                  cases hA
              · rw [if_neg hj] at hA
                obtain rfl := Option.some.inj hA
                have c0 : decide (j < 6) = false := decide_eq_false hj
                have z0 := s48_z0 HI.out
                have z1 := s48_z1 HI.out
                have y0 := s48_y0 HI.out
                have y1 := s48_y1 HI.out
                have h := H.out
                unfold rdEnd at h
                clear H hA HA
                cases b7 with
                | true =>
                  rw [if_pos rfl] at h
                  obtain ⟨N1, N2⟩ := Prod.mk.inj (Option.some.inj h)
                  subst N1 N2
                  clear h
                  go_wp2
                  go_ret2
                  exact ⟨rfl, HB.out⟩
                | false =>
                  rw [if_neg Bool.false_ne_true] at h
                  by_cases hz : 0 < s7.size
                  · rw [if_pos hz] at h
                    obtain ⟨N1, N2⟩ := Prod.mk.inj (Option.some.inj h)
                    subst N1 N2
                    have c1 : decide (0 < (s7.size : Int)) = true := decide_eq_true (by omega)
                    have c2 : decide (0 < s7.size) = true := decide_eq_true hz
                    clear h hz
                    go_wp2
                    go_ret2
                    exact ⟨rfl, HB.out⟩
                  · rw [if_neg hz] at h
                    have QM := Aside0.mk h
                    have c1 : decide (0 < (s7.size : Int)) = false := decide_eq_false (by omega)
                    have c2 : decide (0 < s7.size) = false := decide_eq_false hz
                    clear h hz
                    go_wp2_with ((go_at_call 21; have X := (computusref03_Make.calls k hh mm ss u r1 r2 wr QM.out); with_reducible refine X.mono ?_; clear X; rintro e w9 ⟨rfl, ⟨nd, rfl⟩⟩))
                    go_ret2
                    exact ⟨rfl, pw_below_drewN HB.out nd⟩
        · rw [if_neg hsz] at h
          cases h


/-! ### computuslaw03_ClockReads: function 4 -/
def computuslaw03_ClockReads.j0 : Nat → Int → Int → Bool → Option (Bool)
  | 0, _, _, _ => none
  | k + 1, x3, x6, x28 => if x28 = true then (some false) else (if x6 = 0 then ((clock_Text.f x3).bind fun bt175 => ((clock_Read.f k bt175.1).bind fun bt177 => (if bt175.2 = 0 then (if bt177.2 = 0 then (if bt177.1 = x3 then ((computuslaw03_known.f k).bind fun t179 => (some t179)) else (some false)) else (some false)) else (some false)))) else ((computuslaw03_known.f k).bind fun t180 => (some t180)))
def computuslaw03_ClockReads.f (k : Nat) (a0 : ByteArray) : Option (Bool) := (clock_Read.f k a0).bind fun bt171 => ((computusref03_Read.f k a0).bind fun bt173 => (if bt171.1 = bt173.1 then (computuslaw03_ClockReads.j0 k bt171.1 bt173.2 (bt171.2 != bt173.2)) else (computuslaw03_ClockReads.j0 k bt171.1 bt173.2 true)))
theorem computuslaw03_ClockReads.mono_l : ∀ k, (∀ y0 y1 y2, LeO (computuslaw03_ClockReads.j0 k y0 y1 y2) (computuslaw03_ClockReads.j0 (k + 1) y0 y1 y2))
  | 0 => fun _ _ _ r h => by simp [computuslaw03_ClockReads.j0] at h
  | k + 1 => by
    have ih0 := computuslaw03_ClockReads.mono_l k
    · intro y0 y1 y2
      unfold computuslaw03_ClockReads.j0
      repeat' first
      | (with_reducible exact ih0 _ _ _)
      | (with_reducible exact clock_Read.mono _ _)
      | (with_reducible exact computuslaw03_known.mono _)
      | (with_reducible exact computusref03_Read.mono _ _)
      | (with_reducible exact LeO.refl _)
      | (with_reducible exact LeO.none _)
      | (with_reducible refine LeO.ite ?_ ?_)
      | (with_reducible refine LeO.bind ?_ (fun _ => ?_))
      | exact ih0 _ _ _
      | exact clock_Read.mono _ _
      | exact computuslaw03_known.mono _
      | exact computusref03_Read.mono _ _
      | exact LeO.none _
      | refine LeO.ite ?_ ?_
      | refine LeO.bind ?_ (fun _ => ?_)
theorem computuslaw03_ClockReads.mono : ∀ a0 k, LeO (computuslaw03_ClockReads.f k a0) (computuslaw03_ClockReads.f (k + 1) a0) := by
  intro a0 k
  have ih0 := computuslaw03_ClockReads.mono_l k
  unfold computuslaw03_ClockReads.f
  repeat' first
      | (with_reducible exact ih0 _ _ _)
      | (with_reducible exact clock_Read.mono _ _)
      | (with_reducible exact computuslaw03_known.mono _)
      | (with_reducible exact computusref03_Read.mono _ _)
      | (with_reducible exact LeO.refl _)
      | (with_reducible exact LeO.none _)
      | (with_reducible refine LeO.ite ?_ ?_)
      | (with_reducible refine LeO.bind ?_ (fun _ => ?_))
      | exact ih0 _ _ _
      | exact clock_Read.mono _ _
      | exact computuslaw03_known.mono _
      | exact computusref03_Read.mono _ _
      | exact LeO.none _
      | refine LeO.ite ?_ ?_
      | refine LeO.bind ?_ (fun _ => ?_)
set_option maxHeartbeats 8000000 in
set_option maxRecDepth 100000 in
theorem computuslaw03_ClockReads.calls (k : Nat) (a0 : ByteArray) (r : Bool) (w : World) (h : computuslaw03_ClockReads.f k a0 = some r) :
    Calls Try.prog 4 #[.string a0] w fun e w' => e = .returned (.bool r) ∧ Below w.heap.size w w' := by
  have HB := Aside0.mk (Below.refl w.heap.size w)
  have H : ((clock_Read.f k a0).bind fun bt171 => ((computusref03_Read.f k a0).bind fun bt173 => (if bt171.1 = bt173.1 then (computuslaw03_ClockReads.j0 k bt171.1 bt173.2 (bt171.2 != bt173.2)) else (computuslaw03_ClockReads.j0 k bt171.1 bt173.2 true)))) = some r := h
  clear h
  replace H := Option.bind_eq_some_iff.mp H
  obtain ⟨⟨t171, t172⟩, A20, H⟩ := H
  replace H : ((computusref03_Read.f k a0).bind fun bt173 => (if t171 = bt173.1 then (computuslaw03_ClockReads.j0 k t171 bt173.2 (t172 != bt173.2)) else (computuslaw03_ClockReads.j0 k t171 bt173.2 true))) = some r := H
  have A2 := Aside0.mk A20
  clear A20
  replace H := Option.bind_eq_some_iff.mp H
  obtain ⟨⟨t173, t174⟩, A30, H⟩ := H
  replace H : (if t171 = t173 then (computuslaw03_ClockReads.j0 k t171 t174 (t172 != t174)) else (computuslaw03_ClockReads.j0 k t171 t174 true)) = some r := H
  have A3 := Aside0.mk A30
  clear A30
  have HC4 := Aside0.mk H
  clear H
  go_enter Try.func4, Try.ntmps4
  go_upto_region 3 with (first | ((with_reducible refine gate_callee (f := 18) rfl ?_); refine goesL_ (some 13) rfl rfl Try.func18 (by kernel_rfl) rfl #[.string a0] rfl (by (try simp only [List.map_toArray, List.map_cons, List.map_nil]); first | done | rfl | (simp only [List.length_drop, List.length_take]; rfl)) ?_; (with_reducible refine (clock_Read.calls k a0 t171 t172 _ A2.out).mono ?_); rintro e w5 ⟨rfl, hb⟩; refine ⟨_, rfl, ?_⟩; have n0_ := Aside0.mk (below_step (by repeat (first | (with_reducible first | exact HB.out | apply below_alloc | apply pw_below_drewN | apply below_drew1) | exact HB.out)) hb); clear HB; have HB := n0_; clear n0_; (try clear hb); (try clear hb2); (try clear hk); (try clear hi)) | ((with_reducible refine gate_callee (f := 19) rfl ?_); refine goesL_ (some 18) rfl rfl Try.func19 (by kernel_rfl) rfl #[.string a0] rfl (by (try simp only [List.map_toArray, List.map_cons, List.map_nil]); first | done | rfl | (simp only [List.length_drop, List.length_take]; rfl)) ?_; (with_reducible refine (computusref03_Read.calls k a0 t173 t174 _ A3.out).mono ?_); rintro e w6 ⟨rfl, hb⟩; refine ⟨_, rfl, ?_⟩; have n0_ := Aside0.mk (below_step (by repeat (first | (with_reducible first | exact HB.out | apply below_alloc | apply pw_below_drewN | apply below_drew1) | exact HB.out)) hb); clear HB; have HB := n0_; clear n0_; (try clear hb); (try clear hb2); (try clear hk); (try clear hi)))
  (try simp only [Act.put, List.setIfInBounds_toArray, List.set_cons_zero, List.set_cons_succ])
  go_cut [28] (fun v28 wc => ∃ (kq : Nat) (x28_3 : Bool), v28 = .bool x28_3 ∧ Aside0 (computuslaw03_ClockReads.j0 kq t171 t174 x28_3 = some r) ∧ Aside0 (kq ≤ k) ∧ Aside0 (Below w.heap.size w wc))
  case first =>
    have H := HC4.out
    clear HC4
    by_cases c7 : t171 = t173
    · rw [if_pos c7] at H
      have c7b0 : (t171 == t173) = true := beq_iff_eq.mpr c7
      have c7b1 : (t171 != t173) = false := bne_eq_false_iff_eq.mpr c7
      clear c7
      (first | rw [c7b0] | (simp only [i64_w, i32_w]; rw [c7b0]) | skip)
      have H' := Aside0.mk H
      clear H
      go_wp2
      go_meet
      case rel => exact ⟨_, ((t172 != t174)), (by first | rfl | (simp; done) | (simp [*]; done)), H', ⟨by first | omega | exact Nat.le_refl _⟩, ⟨by repeat (first | (with_reducible first | exact HB.out | apply below_alloc | apply pw_below_drewN | apply below_drew1) | exact HB.out)⟩⟩
    · rw [if_neg c7] at H
      have c7b0 : (t171 == t173) = false := beq_eq_false_iff_ne.mpr c7
      have c7b1 : (t171 != t173) = true := bne_iff_ne.mpr c7
      (first | rw [c7b0] | (simp only [i64_w, i32_w]; rw [c7b0]) | skip)
      have H' := Aside0.mk H
      clear H
      go_wp2
      go_meet
      case rel => exact ⟨_, (true), (by first | rfl | (simp; done) | (simp [*]; done)), H', ⟨by first | omega | exact Nat.le_refl _⟩, ⟨by repeat (first | (with_reducible first | exact HB.out | apply below_alloc | apply pw_below_drewN | apply below_drew1) | exact HB.out)⟩⟩
  case rest =>
    clear HC4
    try clear c1
    try clear p2
    try clear c4
    try clear c7
    try clear c7b0
    try clear c7b1
    obtain ⟨kq, x28_3, rfl, HA, HJ3, HB⟩ := hcut
    cases kq with
    | zero => exact absurd HA.out (by simp [computuslaw03_ClockReads.j0])
    | succ kj3 =>
      have H := HA.out
      clear HA
      simp only [computuslaw03_ClockReads.j0] at H
      by_cases c8 : x28_3 = true
      · subst c8
        have H1 : (some false) = some r := by rw [if_pos rfl] at H; exact H
        clear H
        have H := H1
        clear H1
        obtain rfl := Option.some.inj H
        go_wp2
        go_ret
        exact ⟨by first | rfl | (simp [errW_none, errW_some] <;> rfl) | (simp [*, errW_none, errW_some] <;> rfl), by repeat (first | (with_reducible first | exact HB.out | apply below_alloc | apply pw_below_drewN | apply below_drew1) | exact HB.out)⟩
      · replace c8 := Bool.eq_false_iff.mpr c8
        subst c8
        have H1 : (if t174 = 0 then ((clock_Text.f t171).bind fun bt175 => ((clock_Read.f kj3 bt175.1).bind fun bt177 => (if bt175.2 = 0 then (if bt177.2 = 0 then (if bt177.1 = t171 then ((computuslaw03_known.f kj3).bind fun t179 => (some t179)) else (some false)) else (some false)) else (some false)))) else ((computuslaw03_known.f kj3).bind fun t180 => (some t180))) = some r := by rw [if_neg (show ¬ (false = true) by decide)] at H; exact H
        clear H
        have H := H1
        clear H1
        by_cases c9 : t174 = 0
        · rw [if_pos c9] at H
          have c9b0 : (t174 == 0) = true := beq_iff_eq.mpr c9
          have c9b1 : (t174 != 0) = false := bne_eq_false_iff_eq.mpr c9
          clear c9
          replace H := Option.bind_eq_some_iff.mp H
          obtain ⟨⟨t175, t176⟩, A100, H⟩ := H
          replace H : ((clock_Read.f kj3 t175).bind fun bt177 => (if t176 = 0 then (if bt177.2 = 0 then (if bt177.1 = t171 then ((computuslaw03_known.f kj3).bind fun t179 => (some t179)) else (some false)) else (some false)) else (some false))) = some r := H
          have A10 := Aside0.mk A100
          clear A100
          replace H := Option.bind_eq_some_iff.mp H
          obtain ⟨⟨t177, t178⟩, A110, H⟩ := H
          replace H : (if t176 = 0 then (if t178 = 0 then (if t177 = t171 then ((computuslaw03_known.f kj3).bind fun t179 => (some t179)) else (some false)) else (some false)) else (some false)) = some r := H
          have A11 := Aside0.mk A110
          clear A110
          by_cases c12 : t176 = 0
          · rw [if_pos c12] at H
            have c12b0 : (t176 == 0) = true := beq_iff_eq.mpr c12
            have c12b1 : (t176 != 0) = false := bne_eq_false_iff_eq.mpr c12
            clear c12
            by_cases c13 : t178 = 0
            · rw [if_pos c13] at H
              have c13b0 : (t178 == 0) = true := beq_iff_eq.mpr c13
              have c13b1 : (t178 != 0) = false := bne_eq_false_iff_eq.mpr c13
              clear c13
              by_cases c14 : t177 = t171
              · rw [if_pos c14] at H
                have c14b0 : (t177 == t171) = true := beq_iff_eq.mpr c14
                have c14b1 : (t177 != t171) = false := bne_eq_false_iff_eq.mpr c14
                clear c14
                replace H := Option.bind_eq_some_iff.mp H
                obtain ⟨t179, A150, H⟩ := H
                replace H : (some t179) = some r := H
                have A15 := Aside0.mk A150
                clear A150
                obtain rfl := Option.some.inj H
                go_wp2_with (first | ((with_reducible refine gate_callee (f := 9) rfl ?_); refine goesL_ (some 34) rfl rfl Try.func9 (by kernel_rfl) rfl #[.int .i64 t171] rfl (by (try simp only [List.map_toArray, List.map_cons, List.map_nil]); first | done | rfl | (simp only [List.length_drop, List.length_take]; rfl)) ?_; (with_reducible refine (clock_Text.calls t171 t175 t176 _ A10.out).mono ?_); rintro e w16 ⟨rfl, hb⟩; refine ⟨_, rfl, ?_⟩; have n0_ := Aside0.mk (below_step (by repeat (first | (with_reducible first | exact HB.out | apply below_alloc | apply pw_below_drewN | apply below_drew1) | exact HB.out)) hb); clear HB; have HB := n0_; clear n0_; (try clear hb); (try clear hb2); (try clear hk); (try clear hi)) | ((with_reducible refine gate_callee (f := 18) rfl ?_); refine goesL_ (some 39) rfl rfl Try.func18 (by kernel_rfl) rfl #[.string t175] rfl (by (try simp only [List.map_toArray, List.map_cons, List.map_nil]); first | done | rfl | (simp only [List.length_drop, List.length_take]; rfl)) ?_; (with_reducible refine (clock_Read.calls kj3 t175 t177 t178 _ A11.out).mono ?_); rintro e w17 ⟨rfl, hb⟩; refine ⟨_, rfl, ?_⟩; have n0_ := Aside0.mk (below_step (by repeat (first | (with_reducible first | exact HB.out | apply below_alloc | apply pw_below_drewN | apply below_drew1) | exact HB.out)) hb); clear HB; have HB := n0_; clear n0_; (try clear hb); (try clear hb2); (try clear hk); (try clear hi)) | (go_at_call 17; (with_reducible refine (computuslaw03_known.calls kj3  t179 _ A15.out).mono ?_); rintro e w18 ⟨rfl, hb⟩; have n0_ := Aside0.mk (below_step (by repeat (first | (with_reducible first | exact HB.out | apply below_alloc | apply pw_below_drewN | apply below_drew1) | exact HB.out)) hb); clear HB; have HB := n0_; clear n0_; (try clear hb); (try clear hb2); (try clear hk); (try clear hi)))
                go_ret
                exact ⟨by first | rfl | (simp [errW_none, errW_some] <;> rfl) | (simp [*, errW_none, errW_some] <;> rfl), by repeat (first | (with_reducible first | exact HB.out | apply below_alloc | apply pw_below_drewN | apply below_drew1) | exact HB.out)⟩
              · rw [if_neg c14] at H
                have c14b0 : (t177 == t171) = false := beq_eq_false_iff_ne.mpr c14
                have c14b1 : (t177 != t171) = true := bne_iff_ne.mpr c14
                obtain rfl := Option.some.inj H
                go_wp2_with (first | ((with_reducible refine gate_callee (f := 9) rfl ?_); refine goesL_ (some 34) rfl rfl Try.func9 (by kernel_rfl) rfl #[.int .i64 t171] rfl (by (try simp only [List.map_toArray, List.map_cons, List.map_nil]); first | done | rfl | (simp only [List.length_drop, List.length_take]; rfl)) ?_; (with_reducible refine (clock_Text.calls t171 t175 t176 _ A10.out).mono ?_); rintro e w19 ⟨rfl, hb⟩; refine ⟨_, rfl, ?_⟩; have n0_ := Aside0.mk (below_step (by repeat (first | (with_reducible first | exact HB.out | apply below_alloc | apply pw_below_drewN | apply below_drew1) | exact HB.out)) hb); clear HB; have HB := n0_; clear n0_; (try clear hb); (try clear hb2); (try clear hk); (try clear hi)) | ((with_reducible refine gate_callee (f := 18) rfl ?_); refine goesL_ (some 39) rfl rfl Try.func18 (by kernel_rfl) rfl #[.string t175] rfl (by (try simp only [List.map_toArray, List.map_cons, List.map_nil]); first | done | rfl | (simp only [List.length_drop, List.length_take]; rfl)) ?_; (with_reducible refine (clock_Read.calls kj3 t175 t177 t178 _ A11.out).mono ?_); rintro e w20 ⟨rfl, hb⟩; refine ⟨_, rfl, ?_⟩; have n0_ := Aside0.mk (below_step (by repeat (first | (with_reducible first | exact HB.out | apply below_alloc | apply pw_below_drewN | apply below_drew1) | exact HB.out)) hb); clear HB; have HB := n0_; clear n0_; (try clear hb); (try clear hb2); (try clear hk); (try clear hi)))
                go_ret
                exact ⟨by first | rfl | (simp [errW_none, errW_some] <;> rfl) | (simp [*, errW_none, errW_some] <;> rfl), by repeat (first | (with_reducible first | exact HB.out | apply below_alloc | apply pw_below_drewN | apply below_drew1) | exact HB.out)⟩
            · rw [if_neg c13] at H
              have c13b0 : (t178 == 0) = false := beq_eq_false_iff_ne.mpr c13
              have c13b1 : (t178 != 0) = true := bne_iff_ne.mpr c13
              obtain rfl := Option.some.inj H
              go_wp2_with (first | ((with_reducible refine gate_callee (f := 9) rfl ?_); refine goesL_ (some 34) rfl rfl Try.func9 (by kernel_rfl) rfl #[.int .i64 t171] rfl (by (try simp only [List.map_toArray, List.map_cons, List.map_nil]); first | done | rfl | (simp only [List.length_drop, List.length_take]; rfl)) ?_; (with_reducible refine (clock_Text.calls t171 t175 t176 _ A10.out).mono ?_); rintro e w21 ⟨rfl, hb⟩; refine ⟨_, rfl, ?_⟩; have n0_ := Aside0.mk (below_step (by repeat (first | (with_reducible first | exact HB.out | apply below_alloc | apply pw_below_drewN | apply below_drew1) | exact HB.out)) hb); clear HB; have HB := n0_; clear n0_; (try clear hb); (try clear hb2); (try clear hk); (try clear hi)) | ((with_reducible refine gate_callee (f := 18) rfl ?_); refine goesL_ (some 39) rfl rfl Try.func18 (by kernel_rfl) rfl #[.string t175] rfl (by (try simp only [List.map_toArray, List.map_cons, List.map_nil]); first | done | rfl | (simp only [List.length_drop, List.length_take]; rfl)) ?_; (with_reducible refine (clock_Read.calls kj3 t175 t177 t178 _ A11.out).mono ?_); rintro e w22 ⟨rfl, hb⟩; refine ⟨_, rfl, ?_⟩; have n0_ := Aside0.mk (below_step (by repeat (first | (with_reducible first | exact HB.out | apply below_alloc | apply pw_below_drewN | apply below_drew1) | exact HB.out)) hb); clear HB; have HB := n0_; clear n0_; (try clear hb); (try clear hb2); (try clear hk); (try clear hi)))
              go_ret
              exact ⟨by first | rfl | (simp [errW_none, errW_some] <;> rfl) | (simp [*, errW_none, errW_some] <;> rfl), by repeat (first | (with_reducible first | exact HB.out | apply below_alloc | apply pw_below_drewN | apply below_drew1) | exact HB.out)⟩
          · rw [if_neg c12] at H
            have c12b0 : (t176 == 0) = false := beq_eq_false_iff_ne.mpr c12
            have c12b1 : (t176 != 0) = true := bne_iff_ne.mpr c12
            obtain rfl := Option.some.inj H
            go_wp2_with (first | ((with_reducible refine gate_callee (f := 9) rfl ?_); refine goesL_ (some 34) rfl rfl Try.func9 (by kernel_rfl) rfl #[.int .i64 t171] rfl (by (try simp only [List.map_toArray, List.map_cons, List.map_nil]); first | done | rfl | (simp only [List.length_drop, List.length_take]; rfl)) ?_; (with_reducible refine (clock_Text.calls t171 t175 t176 _ A10.out).mono ?_); rintro e w23 ⟨rfl, hb⟩; refine ⟨_, rfl, ?_⟩; have n0_ := Aside0.mk (below_step (by repeat (first | (with_reducible first | exact HB.out | apply below_alloc | apply pw_below_drewN | apply below_drew1) | exact HB.out)) hb); clear HB; have HB := n0_; clear n0_; (try clear hb); (try clear hb2); (try clear hk); (try clear hi)) | ((with_reducible refine gate_callee (f := 18) rfl ?_); refine goesL_ (some 39) rfl rfl Try.func18 (by kernel_rfl) rfl #[.string t175] rfl (by (try simp only [List.map_toArray, List.map_cons, List.map_nil]); first | done | rfl | (simp only [List.length_drop, List.length_take]; rfl)) ?_; (with_reducible refine (clock_Read.calls kj3 t175 t177 t178 _ A11.out).mono ?_); rintro e w24 ⟨rfl, hb⟩; refine ⟨_, rfl, ?_⟩; have n0_ := Aside0.mk (below_step (by repeat (first | (with_reducible first | exact HB.out | apply below_alloc | apply pw_below_drewN | apply below_drew1) | exact HB.out)) hb); clear HB; have HB := n0_; clear n0_; (try clear hb); (try clear hb2); (try clear hk); (try clear hi)))
            go_ret
            exact ⟨by first | rfl | (simp [errW_none, errW_some] <;> rfl) | (simp [*, errW_none, errW_some] <;> rfl), by repeat (first | (with_reducible first | exact HB.out | apply below_alloc | apply pw_below_drewN | apply below_drew1) | exact HB.out)⟩
        · rw [if_neg c9] at H
          have c9b0 : (t174 == 0) = false := beq_eq_false_iff_ne.mpr c9
          have c9b1 : (t174 != 0) = true := bne_iff_ne.mpr c9
          replace H := Option.bind_eq_some_iff.mp H
          obtain ⟨t180, A250, H⟩ := H
          replace H : (some t180) = some r := H
          have A25 := Aside0.mk A250
          clear A250
          obtain rfl := Option.some.inj H
          go_wp2_with (first | ((with_reducible refine gate_callee (f := 17) rfl ?_); refine goesL_ (some 31) rfl rfl Try.func17 (by kernel_rfl) rfl #[] rfl (by (try simp only [List.map_toArray, List.map_cons, List.map_nil]); first | done | rfl | (simp only [List.length_drop, List.length_take]; rfl)) ?_; (with_reducible refine (computuslaw03_known.calls kj3  t180 _ A25.out).mono ?_); rintro e w26 ⟨rfl, hb⟩; refine ⟨_, rfl, ?_⟩; have n0_ := Aside0.mk (below_step (by repeat (first | (with_reducible first | exact HB.out | apply below_alloc | apply pw_below_drewN | apply below_drew1) | exact HB.out)) hb); clear HB; have HB := n0_; clear n0_; (try clear hb); (try clear hb2); (try clear hk); (try clear hi)))
          go_ret
          exact ⟨by first | rfl | (simp [errW_none, errW_some] <;> rfl) | (simp [*, errW_none, errW_some] <;> rfl), by repeat (first | (with_reducible first | exact HB.out | apply below_alloc | apply pw_below_drewN | apply below_drew1) | exact HB.out)⟩

/-- THE ONE PURE STATEMENT of computuslaw03_ClockReads: yours. -/
def computuslaw03_ClockReads.Pure : Prop := ∀ (a0 : ByteArray), a0.size ≤ 1048576 → ∃ k, computuslaw03_ClockReads.f k a0 = some true
theorem computuslaw03_ClockReads.walk (P : computuslaw03_ClockReads.Pure) (a0 : ByteArray) (w : World) (w0 : a0.size ≤ 1048576) :
    Calls Try.prog 4 #[.string a0] w fun e w' => e = .returned (.bool true) ∧ Below w.heap.size w w' := by
  obtain ⟨k, h⟩ := P a0 w0
  refine (computuslaw03_ClockReads.calls k a0 true w h).mono ?_
  rintro e w' ⟨rfl, hd⟩
  exact ⟨rfl, hd⟩

end Go.Proofs.Ytecijnjnhdjokaa.PClockR
