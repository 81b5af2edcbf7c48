-- Written by a program of this session (mkprint.py, over the kit's print), out of the translation and of the contracts that the session gives.
import Derived.Test.YtecijnjnhdjokaaPClockFx0
import Derived.Test.YtecijnjnhdjokaaPClockFx7
namespace Go.Proofs.Ytecijnjnhdjokaa.PClockF
open Go.RowKit Go.Proofs.YtecijnjnhdjokaaW.PrintWords Go.Proofs.YtecijnjnhdjokaaW.PrintLast Go.Proofs.YtecijnjnhdjokaaW.PrintMore
attribute [local go_sem] max2_int min2_int max_two min_two max_three min_three max_four min_four   -- for this text's walks alone
set_option linter.unusedVariables false
set_option linter.unusedSimpArgs false

/-! ### computusref03_ReadOffset: function 27 -/
/-- The end of the reading of an offset. -/
def roEnd (neg : Bool) (h m sec : Int) (s : ByteArray) (bad : Bool) : Option (Int × Int) :=
  if bad = true then some (0, 13) else if 0 < s.size then some (0, 13) else
  if 0 ≤ h ∧ h ≤ 99 ∧ 0 ≤ m ∧ m ≤ 99 ∧ 0 ≤ sec ∧ sec ≤ 99 then
    (if 59 < m then some (0, 10) else if 59 < sec then some (0, 10) else if 57599 < h * 3600 + m * 60 + sec then some (0, 10) else if neg = true then some (-(h * 3600 + m * 60 + sec), 0) else some (h * 3600 + m * 60 + sec, 0))
  else none
def roBody (k : Nat) (neg : Bool) (s : ByteArray) (bad : Bool) : Option (Int × Int) :=
  if s.size = 4 ∧ ¬ bt s 1 = 58 ∧ ¬ bt s 2 = 58 then (computusref03_scan_num.f k s bad 2 2).bind fun p1 => (computusref03_scan_num.f k p1.2.1 p1.2.2 2 2).bind fun p2 => roEnd neg p1.1 p2.1 0 p2.2.1 p2.2.2
  else (computusref03_scan_num.f k s bad 1 2).bind fun p1 => (computusref03_scan_sign.f p1.2.1 p1.2.2 58).bind fun p2 => if p2.1 = true then (computusref03_scan_num.f k p2.2.1 p2.2.2 2 2).bind fun p3 => (computusref03_scan_sign.f p3.2.1 p3.2.2 58).bind fun p4 => if p4.1 = true then (computusref03_scan_num.f k p4.2.1 p4.2.2 2 2).bind fun p5 => roEnd neg p1.1 p3.1 p5.1 p5.2.1 p5.2.2 else roEnd neg p1.1 p3.1 0 p4.2.1 p4.2.2 else roEnd neg p1.1 0 0 p2.2.1 p2.2.2
/-- 'computusref03.ReadOffset'. -/
def computusref03_ReadOffset.f (k : Nat) (a0 : ByteArray) : Option (Int × Int) :=
  (computusref03_scan_sign.f a0 false 45).bind fun p1 => if p1.1 = true then roBody k true p1.2.1 p1.2.2 else (computusref03_scan_sign.f p1.2.1 p1.2.2 43).bind fun p2 => if p2.1 = true then roBody k false p2.2.1 p2.2.2 else some (0, 13)
theorem s48_z0 {w0 W : World} {g : Nat} {f0 : ByteArray} {f1 : Bool} (h : IsS48 w0 W g f0 f1) : W.cell? ⟨g, 0, none⟩ = some (.string f0) := cellS48_0 (And.left h)
theorem s48_z1 {w0 W : World} {g : Nat} {f0 : ByteArray} {f1 : Bool} (h : IsS48 w0 W g f0 f1) : W.cell? ⟨g, 1, none⟩ = some (.bool f1) := cellS48_1 (And.left h)
theorem s48_y0 {w0 W : World} {g : Nat} {f0 : ByteArray} {f1 : Bool} (h : IsS48 w0 W g f0 f1) : W.frozen? ⟨g, 0, none⟩ = false := blk_frozen (And.left h) 0
theorem s48_y1 {w0 W : World} {g : Nat} {f0 : ByteArray} {f1 : Bool} (h : IsS48 w0 W g f0 f1) : W.frozen? ⟨g, 1, none⟩ = false := blk_frozen (And.left h) 1
theorem ro_bind_le {α β : Type} {x y : Option α} {f g : α → Option β} (h : LeO x y) (hf : ∀ a, LeO (f a) (g a)) : LeO (x.bind f) (y.bind g) := by
  intro r hr
  obtain ⟨a, ha, hr⟩ := Option.bind_eq_some_iff.mp hr
  exact Option.bind_eq_some_iff.mpr ⟨a, h _ ha, hf a _ hr⟩
theorem roBody.mono (neg : Bool) (s : ByteArray) (bad : Bool) (k : Nat) : LeO (roBody k neg s bad) (roBody (k + 1) neg s bad) := by
  unfold roBody
  by_cases c : s.size = 4 ∧ ¬ bt s 1 = 58 ∧ ¬ bt s 2 = 58
  · rw [if_pos c, if_pos c]
    exact ro_bind_le (computusref03_scan_num.mono _ _ _ _ _) (fun p1 => ro_bind_le (computusref03_scan_num.mono _ _ _ _ _) (fun p2 => fun _ h => h))
  · rw [if_neg c, if_neg c]
    refine ro_bind_le (computusref03_scan_num.mono _ _ _ _ _) (fun p1 => ro_bind_le (fun _ h => h) (fun p2 => ?_))
    by_cases c2 : p2.1 = true
    · rw [if_pos c2, if_pos c2]
      refine ro_bind_le (computusref03_scan_num.mono _ _ _ _ _) (fun p3 => ro_bind_le (fun _ h => h) (fun p4 => ?_))
      by_cases c4 : p4.1 = true
      · rw [if_pos c4, if_pos c4]
        exact ro_bind_le (computusref03_scan_num.mono _ _ _ _ _) (fun p5 => fun _ h => h)
      · rw [if_neg c4, if_neg c4]
        exact fun _ h => h
    · rw [if_neg c2, if_neg c2]
      exact fun _ h => h
theorem computusref03_ReadOffset.mono : ∀ a0 k, LeO (computusref03_ReadOffset.f k a0) (computusref03_ReadOffset.f (k + 1) a0) := by
  intro a0 k
  unfold computusref03_ReadOffset.f
  refine ro_bind_le (fun _ h => h) (fun p1 => ?_)
  by_cases c : p1.1 = true
  · rw [if_pos c, if_pos c]
    exact roBody.mono _ _ _ _
  · rw [if_neg c, if_neg c]
    refine ro_bind_le (fun _ h => h) (fun p2 => ?_)
    by_cases c2 : p2.1 = true
    · rw [if_pos c2, if_pos c2]
      exact roBody.mono _ _ _ _
    · rw [if_neg c2, if_neg c2]
      exact fun _ h => h
set_option maxHeartbeats 16000000 in
set_option maxRecDepth 100000 in
theorem computusref03_ReadOffset.calls (k : Nat) (a0 : ByteArray) (r1 r2 : Int) (w : World) (h : computusref03_ReadOffset.f k a0 = some (r1, r2)) :
    Calls Try.prog 27 #[.string a0] w fun e w' => e = .returned (.tuple #[.int .i64 r1, .int .i64 r2]) ∧ Below w.heap.size w w' := by
  unfold computusref03_ReadOffset.f at h
  obtain ⟨⟨o1, s1, b1⟩, q1, h⟩ := Option.bind_eq_some_iff.mp h
  simp only at q1 h
  have Q1 := Aside0.mk q1
  have H := Aside0.mk h
  clear q1 h
  go_enter Try.func27, Try.ntmps27
  go_wp2_with (fail)
  cases o1 with
  | true =>
    have h := H.out
    rw [if_pos rfl] at h
    replace H := Aside0.mk h
    clear h
    have h := H.out
    unfold roBody at h
    clear H
    by_cases k4 : s1.size = 4 ∧ ¬ bt s1 1 = 58 ∧ ¬ bt s1 2 = 58
    · rw [if_pos k4] at h
      obtain ⟨⟨hh, s2, b2⟩, q1, h⟩ := Option.bind_eq_some_iff.mp h
      obtain ⟨⟨mm, s3, b3⟩, q2, h⟩ := Option.bind_eq_some_iff.mp h
      simp only at q1 q2 h
      have Q2 := Aside0.mk q1
      have Q3 := Aside0.mk q2
      have H := Aside0.mk h
      obtain ⟨k1, k2, k3⟩ := k4
      have f1 : ((s1.size : Int) == 4) = true := by simp; omega
      have f2 : (bt s1 1 != 58) = true := by simpa using k2
      have f3 : (bt s1 2 != 58) = true := by simpa using k3
      clear q1 q2 h k2 k3
      have q1 : 1 < s1.size := by omega
      have hx1 : ∀ h : 1 < s1.size, ((s1[1]'h).toNat : Int) = bt s1 1 := bt_at s1 1
      have qi1 : (1 < (s1.size : Int)) = True := eq_true (by omega)
      replace q1 := eq_true q1
      have q2 : 2 < s1.size := by omega
      have hx2 : ∀ h : 2 < s1.size, ((s1[2]'h).toNat : Int) = bt s1 2 := bt_at s1 2
      have qi2 : (2 < (s1.size : Int)) = True := eq_true (by omega)
      replace q2 := eq_true q2
      clear k1
      have X := (computusref03_scan_sign.calls _ a0 false 45 true s1 b1 w _ (IsS48.new w w a0 false (Below.refl _ _)) (below_alloc (Below.refl _ _) _) Q1.out)
      with_reducible refine X.mono ?_
      clear X
      rintro e w1 ⟨rfl, hi, hb, hk⟩
      have HI1 := Aside0.mk hi
      have HB1 := Aside0.mk hb
      have z10 := s48_z0 hi
      have z11 := s48_z1 hi
      have y10 := s48_y0 hi
      have y11 := s48_y1 hi
      clear hi hb hk
      go_wp2_with (fail)
      have X := (computusref03_scan_num.calls k _ s1 b1 2 2 hh s2 b2 w w1 HI1.out HB1.out Q2.out)
      with_reducible refine X.mono ?_
      clear X
      rintro e w2 ⟨rfl, hi, hb, hk⟩
      have HI2 := Aside0.mk hi
      have HB2 := Aside0.mk hb
      have z20 := s48_z0 hi
      have z21 := s48_z1 hi
      have y20 := s48_y0 hi
      have y21 := s48_y1 hi
      clear hi hb hk
      go_wp2_with (fail)
      have h := H.out
      unfold roEnd at h
      clear H
      cases b3 with
      | true =>
        rw [if_pos rfl] at h
        obtain ⟨N1, N2⟩ := Prod.mk.inj (Option.some.inj h)
        subst N1 N2
        clear h
        have X := (computusref03_scan_num.calls k _ s2 b2 2 2 mm s3 true w w2 HI2.out HB2.out Q3.out)
        with_reducible refine X.mono ?_
        clear X
        rintro e w3 ⟨rfl, hi, hb, hk⟩
        have HI3 := Aside0.mk hi
        have HB3 := Aside0.mk hb
        have z30 := s48_z0 hi
        have z31 := s48_z1 hi
        have y30 := s48_y0 hi
        have y31 := s48_y1 hi
        clear hi hb hk
        go_wp2_with (fail)
        go_ret2
        exact ⟨by first | rfl | simp, HB3.out⟩
      | false =>
        rw [if_neg Bool.false_ne_true] at h
        by_cases hz : 0 < s3.size
        · rw [if_pos hz] at h
          obtain ⟨N1, N2⟩ := Prod.mk.inj (Option.some.inj h)
          subst N1 N2
          have c1 : decide (0 < (s3.size : Int)) = true := decide_eq_true (by omega)
          have c2 : decide (0 < s3.size) = true := decide_eq_true hz
          clear h hz
          have X := (computusref03_scan_num.calls k _ s2 b2 2 2 mm s3 false w w2 HI2.out HB2.out Q3.out)
          with_reducible refine X.mono ?_
          clear X
          rintro e w3 ⟨rfl, hi, hb, hk⟩
          have HI3 := Aside0.mk hi
          have HB3 := Aside0.mk hb
          have z30 := s48_z0 hi
          have z31 := s48_z1 hi
          have y30 := s48_y0 hi
          have y31 := s48_y1 hi
          clear hi hb hk
          go_wp2_with (fail)
          go_ret2
          exact ⟨by first | rfl | simp, HB3.out⟩
        · rw [if_neg hz] at h
          have c1 : decide (0 < (s3.size : Int)) = false := decide_eq_false (by omega)
          have c2 : decide (0 < s3.size) = false := decide_eq_false hz
          clear hz
          by_cases hg : 0 ≤ (hh : Int) ∧ (hh : Int) ≤ 99 ∧ 0 ≤ (mm : Int) ∧ (mm : Int) ≤ 99 ∧ 0 ≤ (0 : Int) ∧ (0 : Int) ≤ 99
          · rw [if_pos hg] at h
            obtain ⟨g1, g2, g3, g4, g5, g6⟩ := hg
            by_cases d1 : 59 < (mm : Int)
            · rw [if_pos d1] at h
              have e1 : decide (59 < (mm : Int)) = true := decide_eq_true d1
              obtain ⟨N1, N2⟩ := Prod.mk.inj (Option.some.inj h)
              subst N1 N2
              clear h
              have X := (computusref03_scan_num.calls k _ s2 b2 2 2 mm s3 false w w2 HI2.out HB2.out Q3.out)
              with_reducible refine X.mono ?_
              clear X
              rintro e w3 ⟨rfl, hi, hb, hk⟩
              have HI3 := Aside0.mk hi
              have HB3 := Aside0.mk hb
              have z30 := s48_z0 hi
              have z31 := s48_z1 hi
              have y30 := s48_y0 hi
              have y31 := s48_y1 hi
              clear hi hb hk
              go_wp2_with (fail)
              go_ret2
              exact ⟨by first | rfl | simp, HB3.out⟩
            rw [if_neg d1] at h
            have e1 : decide (59 < (mm : Int)) = false := decide_eq_false d1
            by_cases d2 : 59 < (0 : Int)
            · rw [if_pos d2] at h
              have e2 : decide (59 < (0 : Int)) = true := decide_eq_true d2
              exact absurd d2 (by decide)
            rw [if_neg d2] at h
            have e2 : decide (59 < (0 : Int)) = false := decide_eq_false d2
            by_cases d3 : 57599 < (hh : Int) * 3600 + (mm : Int) * 60 + (0 : Int)
            · rw [if_pos d3] at h
              have e3 : decide (57599 < hh * 3600 + mm * 60) = true := decide_eq_true (by omega)
              obtain ⟨N1, N2⟩ := Prod.mk.inj (Option.some.inj h)
              subst N1 N2
              clear h
              have X := (computusref03_scan_num.calls k _ s2 b2 2 2 mm s3 false w w2 HI2.out HB2.out Q3.out)
              with_reducible refine X.mono ?_
              clear X
              rintro e w3 ⟨rfl, hi, hb, hk⟩
              have HI3 := Aside0.mk hi
              have HB3 := Aside0.mk hb
              have z30 := s48_z0 hi
              have z31 := s48_z1 hi
              have y30 := s48_y0 hi
              have y31 := s48_y1 hi
              clear hi hb hk
              go_wp2_with (fail)
              go_ret2
              exact ⟨by first | rfl | simp, HB3.out⟩
            rw [if_neg d3] at h
            have e3 : decide (57599 < hh * 3600 + mm * 60) = false := decide_eq_false (by omega)
            rw [if_pos rfl] at h
            obtain ⟨N1, N2⟩ := Prod.mk.inj (Option.some.inj h)
            subst N1 N2
            clear h
            have X := (computusref03_scan_num.calls k _ s2 b2 2 2 mm s3 false w w2 HI2.out HB2.out Q3.out)
            with_reducible refine X.mono ?_
            clear X
            rintro e w3 ⟨rfl, hi, hb, hk⟩
            have HI3 := Aside0.mk hi
            have HB3 := Aside0.mk hb
            have z30 := s48_z0 hi
            have z31 := s48_z1 hi
            have y30 := s48_y0 hi
            have y31 := s48_y1 hi
            clear hi hb hk
            go_wp2_with (fail)
            go_ret2
            exact ⟨by first | rfl | simp, HB3.out⟩
          · rw [if_neg hg] at h
            cases h
    · rw [if_neg k4] at h
      obtain ⟨⟨hh, s2, b2⟩, q1, h⟩ := Option.bind_eq_some_iff.mp h
      obtain ⟨⟨o2, s3, b3⟩, q2, h⟩ := Option.bind_eq_some_iff.mp h
      simp only at q1 q2 h
      have Q2 := Aside0.mk q1
      have Q3 := Aside0.mk q2
      have H := Aside0.mk h
      clear q1 q2 h
      by_cases k1 : s1.size = 4
      · have f1 : ((s1.size : Int) == 4) = true := by simp; omega
        have q1 : 1 < s1.size := by omega
        have hx1 : ∀ h : 1 < s1.size, ((s1[1]'h).toNat : Int) = bt s1 1 := bt_at s1 1
        have qi1 : (1 < (s1.size : Int)) = True := eq_true (by omega)
        replace q1 := eq_true q1
        by_cases k2 : bt s1 1 = 58
        · have f2 : (bt s1 1 != 58) = false := by simpa using k2
          clear k1 k2 k4
          have X := (computusref03_scan_sign.calls _ a0 false 45 true s1 b1 w _ (IsS48.new w w a0 false (Below.refl _ _)) (below_alloc (Below.refl _ _) _) Q1.out)
          with_reducible refine X.mono ?_
          clear X
          rintro e w1 ⟨rfl, hi, hb, hk⟩
          have HI1 := Aside0.mk hi
          have HB1 := Aside0.mk hb
          have z10 := s48_z0 hi
          have z11 := s48_z1 hi
          have y10 := s48_y0 hi
          have y11 := s48_y1 hi
          clear hi hb hk
          go_wp2_with (fail)
          have X := (computusref03_scan_num.calls k _ s1 b1 1 2 hh s2 b2 w w1 HI1.out HB1.out Q2.out)
          with_reducible refine X.mono ?_
          clear X
          rintro e w2 ⟨rfl, hi, hb, hk⟩
          have HI2 := Aside0.mk hi
          have HB2 := Aside0.mk hb
          have z20 := s48_z0 hi
          have z21 := s48_z1 hi
          have y20 := s48_y0 hi
          have y21 := s48_y1 hi
          clear hi hb hk
          go_wp2_with (fail)
          cases o2 with
          | false =>
            have h := H.out
            rw [if_neg Bool.false_ne_true] at h
            replace H := Aside0.mk h
            clear h
            have h := H.out
            unfold roEnd at h
            clear H
            cases b3 with
            | true =>
              rw [if_pos rfl] at h
              obtain ⟨N1, N2⟩ := Prod.mk.inj (Option.some.inj h)
              subst N1 N2
              clear h
              have X := (computusref03_scan_sign.calls _ s2 b2 58 false s3 true w w2 HI2.out HB2.out Q3.out)
              with_reducible refine X.mono ?_
              clear X
              rintro e w3 ⟨rfl, hi, hb, hk⟩
              have HI3 := Aside0.mk hi
              have HB3 := Aside0.mk hb
              have z30 := s48_z0 hi
              have z31 := s48_z1 hi
              have y30 := s48_y0 hi
              have y31 := s48_y1 hi
              clear hi hb hk
              go_wp2_with (fail)
              go_ret2
              exact ⟨by first | rfl | simp, HB3.out⟩
            | false =>
              rw [if_neg Bool.false_ne_true] at h
              by_cases hz : 0 < s3.size
              · rw [if_pos hz] at h
                obtain ⟨N1, N2⟩ := Prod.mk.inj (Option.some.inj h)
                subst N1 N2
                have c1 : decide (0 < (s3.size : Int)) = true := decide_eq_true (by omega)
                have c2 : decide (0 < s3.size) = true := decide_eq_true hz
                clear h hz
                have X := (computusref03_scan_sign.calls _ s2 b2 58 false s3 false w w2 HI2.out HB2.out Q3.out)
                with_reducible refine X.mono ?_
                clear X
                rintro e w3 ⟨rfl, hi, hb, hk⟩
                have HI3 := Aside0.mk hi
                have HB3 := Aside0.mk hb
                have z30 := s48_z0 hi
                have z31 := s48_z1 hi
                have y30 := s48_y0 hi
                have y31 := s48_y1 hi
                clear hi hb hk
                go_wp2_with (fail)
                go_ret2
                exact ⟨by first | rfl | simp, HB3.out⟩
              · rw [if_neg hz] at h
                have c1 : decide (0 < (s3.size : Int)) = false := decide_eq_false (by omega)
                have c2 : decide (0 < s3.size) = false := decide_eq_false hz
                clear hz
                by_cases hg : 0 ≤ (hh : Int) ∧ (hh : Int) ≤ 99 ∧ 0 ≤ (0 : Int) ∧ (0 : Int) ≤ 99 ∧ 0 ≤ (0 : Int) ∧ (0 : Int) ≤ 99
                · rw [if_pos hg] at h
                  obtain ⟨g1, g2, g3, g4, g5, g6⟩ := hg
                  by_cases d1 : 59 < (0 : Int)
                  · rw [if_pos d1] at h
                    have e1 : decide (59 < (0 : Int)) = true := decide_eq_true d1
                    exact absurd d1 (by decide)
                  rw [if_neg d1] at h
                  have e1 : decide (59 < (0 : Int)) = false := decide_eq_false d1
                  by_cases d2 : 59 < (0 : Int)
                  · rw [if_pos d2] at h
                    have e2 : decide (59 < (0 : Int)) = true := decide_eq_true d2
                    exact absurd d2 (by decide)
                  rw [if_neg d2] at h
                  have e2 : decide (59 < (0 : Int)) = false := decide_eq_false d2
                  by_cases d3 : 57599 < (hh : Int) * 3600 + (0 : Int) * 60 + (0 : Int)
                  · rw [if_pos d3] at h
                    have e3 : decide (57599 < hh * 3600) = true := decide_eq_true (by omega)
                    obtain ⟨N1, N2⟩ := Prod.mk.inj (Option.some.inj h)
                    subst N1 N2
                    clear h
                    have X := (computusref03_scan_sign.calls _ s2 b2 58 false s3 false w w2 HI2.out HB2.out Q3.out)
                    with_reducible refine X.mono ?_
                    clear X
                    rintro e w3 ⟨rfl, hi, hb, hk⟩
                    have HI3 := Aside0.mk hi
                    have HB3 := Aside0.mk hb
                    have z30 := s48_z0 hi
                    have z31 := s48_z1 hi
                    have y30 := s48_y0 hi
                    have y31 := s48_y1 hi
                    clear hi hb hk
                    go_wp2_with (fail)
                    go_ret2
                    exact ⟨by first | rfl | simp, HB3.out⟩
                  rw [if_neg d3] at h
                  have e3 : decide (57599 < hh * 3600) = false := decide_eq_false (by omega)
                  rw [if_pos rfl] at h
                  obtain ⟨N1, N2⟩ := Prod.mk.inj (Option.some.inj h)
                  subst N1 N2
                  clear h
                  have X := (computusref03_scan_sign.calls _ s2 b2 58 false s3 false w w2 HI2.out HB2.out Q3.out)
                  with_reducible refine X.mono ?_
                  clear X
                  rintro e w3 ⟨rfl, hi, hb, hk⟩
                  have HI3 := Aside0.mk hi
                  have HB3 := Aside0.mk hb
                  have z30 := s48_z0 hi
                  have z31 := s48_z1 hi
                  have y30 := s48_y0 hi
                  have y31 := s48_y1 hi
                  clear hi hb hk
                  go_wp2_with (fail)
                  go_ret2
                  exact ⟨by first | rfl | simp, HB3.out⟩
                · rw [if_neg hg] at h
                  cases h
          | true =>
            have h := H.out
            rw [if_pos rfl] at h
            obtain ⟨⟨mm, s4, b4⟩, q3, h⟩ := Option.bind_eq_some_iff.mp h
            obtain ⟨⟨o4, s5, b5⟩, q4, h⟩ := Option.bind_eq_some_iff.mp h
            simp only at q3 q4 h
            have Q4 := Aside0.mk q3
            have Q5 := Aside0.mk q4
            replace H := Aside0.mk h
            clear q3 q4 h
            have X := (computusref03_scan_sign.calls _ s2 b2 58 true s3 b3 w w2 HI2.out HB2.out Q3.out)
            with_reducible refine X.mono ?_
            clear X
            rintro e w3 ⟨rfl, hi, hb, hk⟩
            have HI3 := Aside0.mk hi
            have HB3 := Aside0.mk hb
            have z30 := s48_z0 hi
            have z31 := s48_z1 hi
            have y30 := s48_y0 hi
            have y31 := s48_y1 hi
            clear hi hb hk
            go_wp2_with (fail)
            have X := (computusref03_scan_num.calls k _ s3 b3 2 2 mm s4 b4 w w3 HI3.out HB3.out Q4.out)
            with_reducible refine X.mono ?_
            clear X
            rintro e w4 ⟨rfl, hi, hb, hk⟩
            have HI4 := Aside0.mk hi
            have HB4 := Aside0.mk hb
            have z40 := s48_z0 hi
            have z41 := s48_z1 hi
            have y40 := s48_y0 hi
            have y41 := s48_y1 hi
            clear hi hb hk
            go_wp2_with (fail)
            cases o4 with
            | false =>
              have h := H.out
              rw [if_neg Bool.false_ne_true] at h
              replace H := Aside0.mk h
              clear h
              have h := H.out
              unfold roEnd at h
              clear H
              cases b5 with
              | true =>
                rw [if_pos rfl] at h
                obtain ⟨N1, N2⟩ := Prod.mk.inj (Option.some.inj h)
                subst N1 N2
                clear h
                have X := (computusref03_scan_sign.calls _ s4 b4 58 false s5 true w w4 HI4.out HB4.out Q5.out)
                with_reducible refine X.mono ?_
                clear X
                rintro e w5 ⟨rfl, hi, hb, hk⟩
                have HI5 := Aside0.mk hi
                have HB5 := Aside0.mk hb
                have z50 := s48_z0 hi
                have z51 := s48_z1 hi
                have y50 := s48_y0 hi
                have y51 := s48_y1 hi
                clear hi hb hk
                go_wp2_with (fail)
                go_ret2
                exact ⟨by first | rfl | simp, HB5.out⟩
              | false =>
                rw [if_neg Bool.false_ne_true] at h
                by_cases hz : 0 < s5.size
                · rw [if_pos hz] at h
                  obtain ⟨N1, N2⟩ := Prod.mk.inj (Option.some.inj h)
                  subst N1 N2
                  have c1 : decide (0 < (s5.size : Int)) = true := decide_eq_true (by omega)
                  have c2 : decide (0 < s5.size) = true := decide_eq_true hz
                  clear h hz
                  have X := (computusref03_scan_sign.calls _ s4 b4 58 false s5 false w w4 HI4.out HB4.out Q5.out)
                  with_reducible refine X.mono ?_
                  clear X
                  rintro e w5 ⟨rfl, hi, hb, hk⟩
                  have HI5 := Aside0.mk hi
                  have HB5 := Aside0.mk hb
                  have z50 := s48_z0 hi
                  have z51 := s48_z1 hi
                  have y50 := s48_y0 hi
                  have y51 := s48_y1 hi
                  clear hi hb hk
                  go_wp2_with (fail)
                  go_ret2
                  exact ⟨by first | rfl | simp, HB5.out⟩
                · rw [if_neg hz] at h
                  have c1 : decide (0 < (s5.size : Int)) = false := decide_eq_false (by omega)
                  have c2 : decide (0 < s5.size) = false := decide_eq_false hz
                  clear hz
                  by_cases hg : 0 ≤ (hh : Int) ∧ (hh : Int) ≤ 99 ∧ 0 ≤ (mm : Int) ∧ (mm : Int) ≤ 99 ∧ 0 ≤ (0 : Int) ∧ (0 : Int) ≤ 99
                  · rw [if_pos hg] at h
                    obtain ⟨g1, g2, g3, g4, g5, g6⟩ := hg
                    by_cases d1 : 59 < (mm : Int)
                    · rw [if_pos d1] at h
                      have e1 : decide (59 < (mm : Int)) = true := decide_eq_true d1
                      obtain ⟨N1, N2⟩ := Prod.mk.inj (Option.some.inj h)
                      subst N1 N2
                      clear h
                      have X := (computusref03_scan_sign.calls _ s4 b4 58 false s5 false w w4 HI4.out HB4.out Q5.out)
                      with_reducible refine X.mono ?_
                      clear X
                      rintro e w5 ⟨rfl, hi, hb, hk⟩
                      have HI5 := Aside0.mk hi
                      have HB5 := Aside0.mk hb
                      have z50 := s48_z0 hi
                      have z51 := s48_z1 hi
                      have y50 := s48_y0 hi
                      have y51 := s48_y1 hi
                      clear hi hb hk
                      go_wp2_with (fail)
                      go_ret2
                      exact ⟨by first | rfl | simp, HB5.out⟩
                    rw [if_neg d1] at h
                    have e1 : decide (59 < (mm : Int)) = false := decide_eq_false d1
                    by_cases d2 : 59 < (0 : Int)
                    · rw [if_pos d2] at h
                      have e2 : decide (59 < (0 : Int)) = true := decide_eq_true d2
                      exact absurd d2 (by decide)
                    rw [if_neg d2] at h
                    have e2 : decide (59 < (0 : Int)) = false := decide_eq_false d2
                    by_cases d3 : 57599 < (hh : Int) * 3600 + (mm : Int) * 60 + (0 : Int)
                    · rw [if_pos d3] at h
                      have e3 : decide (57599 < hh * 3600 + mm * 60) = true := decide_eq_true (by omega)
                      obtain ⟨N1, N2⟩ := Prod.mk.inj (Option.some.inj h)
                      subst N1 N2
                      clear h
                      have X := (computusref03_scan_sign.calls _ s4 b4 58 false s5 false w w4 HI4.out HB4.out Q5.out)
                      with_reducible refine X.mono ?_
                      clear X
                      rintro e w5 ⟨rfl, hi, hb, hk⟩
                      have HI5 := Aside0.mk hi
                      have HB5 := Aside0.mk hb
                      have z50 := s48_z0 hi
                      have z51 := s48_z1 hi
                      have y50 := s48_y0 hi
                      have y51 := s48_y1 hi
                      clear hi hb hk
                      go_wp2_with (fail)
                      go_ret2
                      exact ⟨by first | rfl | simp, HB5.out⟩
                    rw [if_neg d3] at h
                    have e3 : decide (57599 < hh * 3600 + mm * 60) = false := decide_eq_false (by omega)
                    rw [if_pos rfl] at h
                    obtain ⟨N1, N2⟩ := Prod.mk.inj (Option.some.inj h)
                    subst N1 N2
                    clear h
                    have X := (computusref03_scan_sign.calls _ s4 b4 58 false s5 false w w4 HI4.out HB4.out Q5.out)
                    with_reducible refine X.mono ?_
                    clear X
                    rintro e w5 ⟨rfl, hi, hb, hk⟩
                    have HI5 := Aside0.mk hi
                    have HB5 := Aside0.mk hb
                    have z50 := s48_z0 hi
                    have z51 := s48_z1 hi
                    have y50 := s48_y0 hi
                    have y51 := s48_y1 hi
                    clear hi hb hk
                    go_wp2_with (fail)
                    go_ret2
                    exact ⟨by first | rfl | simp, HB5.out⟩
                  · rw [if_neg hg] at h
                    cases h
            | true =>
              have h := H.out
              rw [if_pos rfl] at h
              obtain ⟨⟨ss, s6, b6⟩, q5, h⟩ := Option.bind_eq_some_iff.mp h
              simp only at q5 h
              have Q6 := Aside0.mk q5
              replace H := Aside0.mk h
              clear q5 h
              have X := (computusref03_scan_sign.calls _ s4 b4 58 true s5 b5 w w4 HI4.out HB4.out Q5.out)
              with_reducible refine X.mono ?_
              clear X
              rintro e w5 ⟨rfl, hi, hb, hk⟩
              have HI5 := Aside0.mk hi
              have HB5 := Aside0.mk hb
              have z50 := s48_z0 hi
              have z51 := s48_z1 hi
              have y50 := s48_y0 hi
              have y51 := s48_y1 hi
              clear hi hb hk
              go_wp2_with (fail)
              have h := H.out
              unfold roEnd at h
              clear H
              cases b6 with
              | true =>
                rw [if_pos rfl] at h
                obtain ⟨N1, N2⟩ := Prod.mk.inj (Option.some.inj h)
                subst N1 N2
                clear h
                have X := (computusref03_scan_num.calls k _ s5 b5 2 2 ss s6 true w w5 HI5.out HB5.out Q6.out)
                with_reducible refine X.mono ?_
                clear X
                rintro e w6 ⟨rfl, hi, hb, hk⟩
                have HI6 := Aside0.mk hi
                have HB6 := Aside0.mk hb
                have z60 := s48_z0 hi
                have z61 := s48_z1 hi
                have y60 := s48_y0 hi
                have y61 := s48_y1 hi
                clear hi hb hk
                go_wp2_with (fail)
                go_ret2
                exact ⟨by first | rfl | simp, HB6.out⟩
              | false =>
                rw [if_neg Bool.false_ne_true] at h
                by_cases hz : 0 < s6.size
                · rw [if_pos hz] at h
                  obtain ⟨N1, N2⟩ := Prod.mk.inj (Option.some.inj h)
                  subst N1 N2
                  have c1 : decide (0 < (s6.size : Int)) = true := decide_eq_true (by omega)
                  have c2 : decide (0 < s6.size) = true := decide_eq_true hz
                  clear h hz
                  have X := (computusref03_scan_num.calls k _ s5 b5 2 2 ss s6 false w w5 HI5.out HB5.out Q6.out)
                  with_reducible refine X.mono ?_
                  clear X
                  rintro e w6 ⟨rfl, hi, hb, hk⟩
                  have HI6 := Aside0.mk hi
                  have HB6 := Aside0.mk hb
                  have z60 := s48_z0 hi
                  have z61 := s48_z1 hi
                  have y60 := s48_y0 hi
                  have y61 := s48_y1 hi
                  clear hi hb hk
                  go_wp2_with (fail)
                  go_ret2
                  exact ⟨by first | rfl | simp, HB6.out⟩
                · rw [if_neg hz] at h
                  have c1 : decide (0 < (s6.size : Int)) = false := decide_eq_false (by omega)
                  have c2 : decide (0 < s6.size) = false := decide_eq_false hz
                  clear hz
                  by_cases hg : 0 ≤ (hh : Int) ∧ (hh : Int) ≤ 99 ∧ 0 ≤ (mm : Int) ∧ (mm : Int) ≤ 99 ∧ 0 ≤ (ss : Int) ∧ (ss : Int) ≤ 99
                  · rw [if_pos hg] at h
                    obtain ⟨g1, g2, g3, g4, g5, g6⟩ := hg
                    by_cases d1 : 59 < (mm : Int)
                    · rw [if_pos d1] at h
                      have e1 : decide (59 < (mm : Int)) = true := decide_eq_true d1
                      obtain ⟨N1, N2⟩ := Prod.mk.inj (Option.some.inj h)
                      subst N1 N2
                      clear h
                      have X := (computusref03_scan_num.calls k _ s5 b5 2 2 ss s6 false w w5 HI5.out HB5.out Q6.out)
                      with_reducible refine X.mono ?_
                      clear X
                      rintro e w6 ⟨rfl, hi, hb, hk⟩
                      have HI6 := Aside0.mk hi
                      have HB6 := Aside0.mk hb
                      have z60 := s48_z0 hi
                      have z61 := s48_z1 hi
                      have y60 := s48_y0 hi
                      have y61 := s48_y1 hi
                      clear hi hb hk
                      go_wp2_with (fail)
                      go_ret2
                      exact ⟨by first | rfl | simp, HB6.out⟩
                    rw [if_neg d1] at h
                    have e1 : decide (59 < (mm : Int)) = false := decide_eq_false d1
                    by_cases d2 : 59 < (ss : Int)
                    · rw [if_pos d2] at h
                      have e2 : decide (59 < (ss : Int)) = true := decide_eq_true d2
                      obtain ⟨N1, N2⟩ := Prod.mk.inj (Option.some.inj h)
                      subst N1 N2
                      clear h
                      have X := (computusref03_scan_num.calls k _ s5 b5 2 2 ss s6 false w w5 HI5.out HB5.out Q6.out)
                      with_reducible refine X.mono ?_
                      clear X
                      rintro e w6 ⟨rfl, hi, hb, hk⟩
                      have HI6 := Aside0.mk hi
                      have HB6 := Aside0.mk hb
                      have z60 := s48_z0 hi
                      have z61 := s48_z1 hi
                      have y60 := s48_y0 hi
                      have y61 := s48_y1 hi
                      clear hi hb hk
                      go_wp2_with (fail)
                      go_ret2
                      exact ⟨by first | rfl | simp, HB6.out⟩
                    rw [if_neg d2] at h
                    have e2 : decide (59 < (ss : Int)) = false := decide_eq_false d2
                    by_cases d3 : 57599 < (hh : Int) * 3600 + (mm : Int) * 60 + (ss : Int)
                    · rw [if_pos d3] at h
                      have e3 : decide (57599 < hh * 3600 + mm * 60 + ss) = true := decide_eq_true (by omega)
                      obtain ⟨N1, N2⟩ := Prod.mk.inj (Option.some.inj h)
                      subst N1 N2
                      clear h
                      have X := (computusref03_scan_num.calls k _ s5 b5 2 2 ss s6 false w w5 HI5.out HB5.out Q6.out)
                      with_reducible refine X.mono ?_
                      clear X
                      rintro e w6 ⟨rfl, hi, hb, hk⟩
                      have HI6 := Aside0.mk hi
                      have HB6 := Aside0.mk hb
                      have z60 := s48_z0 hi
                      have z61 := s48_z1 hi
                      have y60 := s48_y0 hi
                      have y61 := s48_y1 hi
                      clear hi hb hk
                      go_wp2_with (fail)
                      go_ret2
                      exact ⟨by first | rfl | simp, HB6.out⟩
                    rw [if_neg d3] at h
                    have e3 : decide (57599 < hh * 3600 + mm * 60 + ss) = false := decide_eq_false (by omega)
                    rw [if_pos rfl] at h
                    obtain ⟨N1, N2⟩ := Prod.mk.inj (Option.some.inj h)
                    subst N1 N2
                    clear h
                    have X := (computusref03_scan_num.calls k _ s5 b5 2 2 ss s6 false w w5 HI5.out HB5.out Q6.out)
                    with_reducible refine X.mono ?_
                    clear X
                    rintro e w6 ⟨rfl, hi, hb, hk⟩
                    have HI6 := Aside0.mk hi
                    have HB6 := Aside0.mk hb
                    have z60 := s48_z0 hi
                    have z61 := s48_z1 hi
                    have y60 := s48_y0 hi
                    have y61 := s48_y1 hi
                    clear hi hb hk
                    go_wp2_with (fail)
                    go_ret2
                    exact ⟨by first | rfl | simp, HB6.out⟩
                  · rw [if_neg hg] at h
                    cases h
        · have f2 : (bt s1 1 != 58) = true := by simpa using k2
          have k3 : bt s1 2 = 58 := Classical.byContradiction fun g => k4 ⟨k1, k2, g⟩
          have f3 : (bt s1 2 != 58) = false := by simpa using k3
          have q2 : 2 < s1.size := by omega
          have hx2 : ∀ h : 2 < s1.size, ((s1[2]'h).toNat : Int) = bt s1 2 := bt_at s1 2
          have qi2 : (2 < (s1.size : Int)) = True := eq_true (by omega)
          replace q2 := eq_true q2
          clear k1 k2 k3 k4
          have X := (computusref03_scan_sign.calls _ a0 false 45 true s1 b1 w _ (IsS48.new w w a0 false (Below.refl _ _)) (below_alloc (Below.refl _ _) _) Q1.out)
          with_reducible refine X.mono ?_
          clear X
          rintro e w1 ⟨rfl, hi, hb, hk⟩
          have HI1 := Aside0.mk hi
          have HB1 := Aside0.mk hb
          have z10 := s48_z0 hi
          have z11 := s48_z1 hi
          have y10 := s48_y0 hi
          have y11 := s48_y1 hi
          clear hi hb hk
          go_wp2_with (fail)
          have X := (computusref03_scan_num.calls k _ s1 b1 1 2 hh s2 b2 w w1 HI1.out HB1.out Q2.out)
          with_reducible refine X.mono ?_
          clear X
          rintro e w2 ⟨rfl, hi, hb, hk⟩
          have HI2 := Aside0.mk hi
          have HB2 := Aside0.mk hb
          have z20 := s48_z0 hi
          have z21 := s48_z1 hi
          have y20 := s48_y0 hi
          have y21 := s48_y1 hi
          clear hi hb hk
          go_wp2_with (fail)
          cases o2 with
          | false =>
            have h := H.out
            rw [if_neg Bool.false_ne_true] at h
            replace H := Aside0.mk h
            clear h
            have h := H.out
            unfold roEnd at h
            clear H
            cases b3 with
            | true =>
              rw [if_pos rfl] at h
              obtain ⟨N1, N2⟩ := Prod.mk.inj (Option.some.inj h)
              subst N1 N2
              clear h
              have X := (computusref03_scan_sign.calls _ s2 b2 58 false s3 true w w2 HI2.out HB2.out Q3.out)
              with_reducible refine X.mono ?_
              clear X
              rintro e w3 ⟨rfl, hi, hb, hk⟩
              have HI3 := Aside0.mk hi
              have HB3 := Aside0.mk hb
              have z30 := s48_z0 hi
              have z31 := s48_z1 hi
              have y30 := s48_y0 hi
              have y31 := s48_y1 hi
              clear hi hb hk
              go_wp2_with (fail)
              go_ret2
              exact ⟨by first | rfl | simp, HB3.out⟩
            | false =>
              rw [if_neg Bool.false_ne_true] at h
              by_cases hz : 0 < s3.size
              · rw [if_pos hz] at h
                obtain ⟨N1, N2⟩ := Prod.mk.inj (Option.some.inj h)
                subst N1 N2
                have c1 : decide (0 < (s3.size : Int)) = true := decide_eq_true (by omega)
                have c2 : decide (0 < s3.size) = true := decide_eq_true hz
                clear h hz
                have X := (computusref03_scan_sign.calls _ s2 b2 58 false s3 false w w2 HI2.out HB2.out Q3.out)
                with_reducible refine X.mono ?_
                clear X
                rintro e w3 ⟨rfl, hi, hb, hk⟩
                have HI3 := Aside0.mk hi
                have HB3 := Aside0.mk hb
                have z30 := s48_z0 hi
                have z31 := s48_z1 hi
                have y30 := s48_y0 hi
                have y31 := s48_y1 hi
                clear hi hb hk
                go_wp2_with (fail)
                go_ret2
                exact ⟨by first | rfl | simp, HB3.out⟩
              · rw [if_neg hz] at h
                have c1 : decide (0 < (s3.size : Int)) = false := decide_eq_false (by omega)
                have c2 : decide (0 < s3.size) = false := decide_eq_false hz
                clear hz
                by_cases hg : 0 ≤ (hh : Int) ∧ (hh : Int) ≤ 99 ∧ 0 ≤ (0 : Int) ∧ (0 : Int) ≤ 99 ∧ 0 ≤ (0 : Int) ∧ (0 : Int) ≤ 99
                · rw [if_pos hg] at h
                  obtain ⟨g1, g2, g3, g4, g5, g6⟩ := hg
                  by_cases d1 : 59 < (0 : Int)
                  · rw [if_pos d1] at h
                    have e1 : decide (59 < (0 : Int)) = true := decide_eq_true d1
                    exact absurd d1 (by decide)
                  rw [if_neg d1] at h
                  have e1 : decide (59 < (0 : Int)) = false := decide_eq_false d1
                  by_cases d2 : 59 < (0 : Int)
                  · rw [if_pos d2] at h
                    have e2 : decide (59 < (0 : Int)) = true := decide_eq_true d2
                    exact absurd d2 (by decide)
                  rw [if_neg d2] at h
                  have e2 : decide (59 < (0 : Int)) = false := decide_eq_false d2
                  by_cases d3 : 57599 < (hh : Int) * 3600 + (0 : Int) * 60 + (0 : Int)
                  · rw [if_pos d3] at h
                    have e3 : decide (57599 < hh * 3600) = true := decide_eq_true (by omega)
                    obtain ⟨N1, N2⟩ := Prod.mk.inj (Option.some.inj h)
                    subst N1 N2
                    clear h
                    have X := (computusref03_scan_sign.calls _ s2 b2 58 false s3 false w w2 HI2.out HB2.out Q3.out)
                    with_reducible refine X.mono ?_
                    clear X
                    rintro e w3 ⟨rfl, hi, hb, hk⟩
                    have HI3 := Aside0.mk hi
                    have HB3 := Aside0.mk hb
                    have z30 := s48_z0 hi
                    have z31 := s48_z1 hi
                    have y30 := s48_y0 hi
                    have y31 := s48_y1 hi
                    clear hi hb hk
                    go_wp2_with (fail)
                    go_ret2
                    exact ⟨by first | rfl | simp, HB3.out⟩
                  rw [if_neg d3] at h
                  have e3 : decide (57599 < hh * 3600) = false := decide_eq_false (by omega)
                  rw [if_pos rfl] at h
                  obtain ⟨N1, N2⟩ := Prod.mk.inj (Option.some.inj h)
                  subst N1 N2
                  clear h
                  have X := (computusref03_scan_sign.calls _ s2 b2 58 false s3 false w w2 HI2.out HB2.out Q3.out)
                  with_reducible refine X.mono ?_
                  clear X
                  rintro e w3 ⟨rfl, hi, hb, hk⟩
                  have HI3 := Aside0.mk hi
                  have HB3 := Aside0.mk hb
                  have z30 := s48_z0 hi
                  have z31 := s48_z1 hi
                  have y30 := s48_y0 hi
                  have y31 := s48_y1 hi
                  clear hi hb hk
                  go_wp2_with (fail)
                  go_ret2
                  exact ⟨by first | rfl | simp, HB3.out⟩
                · rw [if_neg hg] at h
                  cases h
          | true =>
            have h := H.out
            rw [if_pos rfl] at h
            obtain ⟨⟨mm, s4, b4⟩, q3, h⟩ := Option.bind_eq_some_iff.mp h
            obtain ⟨⟨o4, s5, b5⟩, q4, h⟩ := Option.bind_eq_some_iff.mp h
            simp only at q3 q4 h
            have Q4 := Aside0.mk q3
            have Q5 := Aside0.mk q4
            replace H := Aside0.mk h
            clear q3 q4 h
            have X := (computusref03_scan_sign.calls _ s2 b2 58 true s3 b3 w w2 HI2.out HB2.out Q3.out)
            with_reducible refine X.mono ?_
            clear X
            rintro e w3 ⟨rfl, hi, hb, hk⟩
            have HI3 := Aside0.mk hi
            have HB3 := Aside0.mk hb
            have z30 := s48_z0 hi
            have z31 := s48_z1 hi
            have y30 := s48_y0 hi
            have y31 := s48_y1 hi
            clear hi hb hk
            go_wp2_with (fail)
            have X := (computusref03_scan_num.calls k _ s3 b3 2 2 mm s4 b4 w w3 HI3.out HB3.out Q4.out)
            with_reducible refine X.mono ?_
            clear X
            rintro e w4 ⟨rfl, hi, hb, hk⟩
            have HI4 := Aside0.mk hi
            have HB4 := Aside0.mk hb
            have z40 := s48_z0 hi
            have z41 := s48_z1 hi
            have y40 := s48_y0 hi
            have y41 := s48_y1 hi
            clear hi hb hk
            go_wp2_with (fail)
            cases o4 with
            | false =>
              have h := H.out
              rw [if_neg Bool.false_ne_true] at h
              replace H := Aside0.mk h
              clear h
              have h := H.out
              unfold roEnd at h
              clear H
              cases b5 with
              | true =>
                rw [if_pos rfl] at h
                obtain ⟨N1, N2⟩ := Prod.mk.inj (Option.some.inj h)
                subst N1 N2
                clear h
                have X := (computusref03_scan_sign.calls _ s4 b4 58 false s5 true w w4 HI4.out HB4.out Q5.out)
                with_reducible refine X.mono ?_
                clear X
                rintro e w5 ⟨rfl, hi, hb, hk⟩
                have HI5 := Aside0.mk hi
                have HB5 := Aside0.mk hb
                have z50 := s48_z0 hi
                have z51 := s48_z1 hi
                have y50 := s48_y0 hi
                have y51 := s48_y1 hi
                clear hi hb hk
                go_wp2_with (fail)
                go_ret2
                exact ⟨by first | rfl | simp, HB5.out⟩
              | false =>
                rw [if_neg Bool.false_ne_true] at h
                by_cases hz : 0 < s5.size
                · rw [if_pos hz] at h
                  obtain ⟨N1, N2⟩ := Prod.mk.inj (Option.some.inj h)
                  subst N1 N2
                  have c1 : decide (0 < (s5.size : Int)) = true := decide_eq_true (by omega)
                  have c2 : decide (0 < s5.size) = true := decide_eq_true hz
                  clear h hz
                  have X := (computusref03_scan_sign.calls _ s4 b4 58 false s5 false w w4 HI4.out HB4.out Q5.out)
                  with_reducible refine X.mono ?_
                  clear X
                  rintro e w5 ⟨rfl, hi, hb, hk⟩
                  have HI5 := Aside0.mk hi
                  have HB5 := Aside0.mk hb
                  have z50 := s48_z0 hi
                  have z51 := s48_z1 hi
                  have y50 := s48_y0 hi
                  have y51 := s48_y1 hi
                  clear hi hb hk
                  go_wp2_with (fail)
                  go_ret2
                  exact ⟨by first | rfl | simp, HB5.out⟩
                · rw [if_neg hz] at h
                  have c1 : decide (0 < (s5.size : Int)) = false := decide_eq_false (by omega)
                  have c2 : decide (0 < s5.size) = false := decide_eq_false hz
                  clear hz
                  by_cases hg : 0 ≤ (hh : Int) ∧ (hh : Int) ≤ 99 ∧ 0 ≤ (mm : Int) ∧ (mm : Int) ≤ 99 ∧ 0 ≤ (0 : Int) ∧ (0 : Int) ≤ 99
                  · rw [if_pos hg] at h
                    obtain ⟨g1, g2, g3, g4, g5, g6⟩ := hg
                    by_cases d1 : 59 < (mm : Int)
                    · rw [if_pos d1] at h
                      have e1 : decide (59 < (mm : Int)) = true := decide_eq_true d1
                      obtain ⟨N1, N2⟩ := Prod.mk.inj (Option.some.inj h)
                      subst N1 N2
                      clear h
                      have X := (computusref03_scan_sign.calls _ s4 b4 58 false s5 false w w4 HI4.out HB4.out Q5.out)
                      with_reducible refine X.mono ?_
                      clear X
                      rintro e w5 ⟨rfl, hi, hb, hk⟩
                      have HI5 := Aside0.mk hi
                      have HB5 := Aside0.mk hb
                      have z50 := s48_z0 hi
                      have z51 := s48_z1 hi
                      have y50 := s48_y0 hi
                      have y51 := s48_y1 hi
                      clear hi hb hk
                      go_wp2_with (fail)
                      go_ret2
                      exact ⟨by first | rfl | simp, HB5.out⟩
                    rw [if_neg d1] at h
                    have e1 : decide (59 < (mm : Int)) = false := decide_eq_false d1
                    by_cases d2 : 59 < (0 : Int)
                    · rw [if_pos d2] at h
                      have e2 : decide (59 < (0 : Int)) = true := decide_eq_true d2
                      exact absurd d2 (by decide)
                    rw [if_neg d2] at h
                    have e2 : decide (59 < (0 : Int)) = false := decide_eq_false d2
                    by_cases d3 : 57599 < (hh : Int) * 3600 + (mm : Int) * 60 + (0 : Int)
                    · rw [if_pos d3] at h
                      have e3 : decide (57599 < hh * 3600 + mm * 60) = true := decide_eq_true (by omega)
                      obtain ⟨N1, N2⟩ := Prod.mk.inj (Option.some.inj h)
                      subst N1 N2
                      clear h
                      have X := (computusref03_scan_sign.calls _ s4 b4 58 false s5 false w w4 HI4.out HB4.out Q5.out)
                      with_reducible refine X.mono ?_
                      clear X
                      rintro e w5 ⟨rfl, hi, hb, hk⟩
                      have HI5 := Aside0.mk hi
                      have HB5 := Aside0.mk hb
                      have z50 := s48_z0 hi
                      have z51 := s48_z1 hi
                      have y50 := s48_y0 hi
                      have y51 := s48_y1 hi
                      clear hi hb hk
                      go_wp2_with (fail)
                      go_ret2
                      exact ⟨by first | rfl | simp, HB5.out⟩
                    rw [if_neg d3] at h
                    have e3 : decide (57599 < hh * 3600 + mm * 60) = false := decide_eq_false (by omega)
                    rw [if_pos rfl] at h
                    obtain ⟨N1, N2⟩ := Prod.mk.inj (Option.some.inj h)
                    subst N1 N2
                    clear h
                    have X := (computusref03_scan_sign.calls _ s4 b4 58 false s5 false w w4 HI4.out HB4.out Q5.out)
                    with_reducible refine X.mono ?_
                    clear X
                    rintro e w5 ⟨rfl, hi, hb, hk⟩
                    have HI5 := Aside0.mk hi
                    have HB5 := Aside0.mk hb
                    have z50 := s48_z0 hi
                    have z51 := s48_z1 hi
                    have y50 := s48_y0 hi
                    have y51 := s48_y1 hi
                    clear hi hb hk
                    go_wp2_with (fail)
                    go_ret2
                    exact ⟨by first | rfl | simp, HB5.out⟩
                  · rw [if_neg hg] at h
                    cases h
            | true =>
              have h := H.out
              rw [if_pos rfl] at h
              obtain ⟨⟨ss, s6, b6⟩, q5, h⟩ := Option.bind_eq_some_iff.mp h
              simp only at q5 h
              have Q6 := Aside0.mk q5
              replace H := Aside0.mk h
              clear q5 h
              have X := (computusref03_scan_sign.calls _ s4 b4 58 true s5 b5 w w4 HI4.out HB4.out Q5.out)
              with_reducible refine X.mono ?_
              clear X
              rintro e w5 ⟨rfl, hi, hb, hk⟩
              have HI5 := Aside0.mk hi
              have HB5 := Aside0.mk hb
              have z50 := s48_z0 hi
              have z51 := s48_z1 hi
              have y50 := s48_y0 hi
              have y51 := s48_y1 hi
              clear hi hb hk
              go_wp2_with (fail)
              have h := H.out
              unfold roEnd at h
              clear H
              cases b6 with
              | true =>
                rw [if_pos rfl] at h
                obtain ⟨N1, N2⟩ := Prod.mk.inj (Option.some.inj h)
                subst N1 N2
                clear h
                have X := (computusref03_scan_num.calls k _ s5 b5 2 2 ss s6 true w w5 HI5.out HB5.out Q6.out)
                with_reducible refine X.mono ?_
                clear X
                rintro e w6 ⟨rfl, hi, hb, hk⟩
                have HI6 := Aside0.mk hi
                have HB6 := Aside0.mk hb
                have z60 := s48_z0 hi
                have z61 := s48_z1 hi
                have y60 := s48_y0 hi
                have y61 := s48_y1 hi
                clear hi hb hk
                go_wp2_with (fail)
                go_ret2
                exact ⟨by first | rfl | simp, HB6.out⟩
              | false =>
                rw [if_neg Bool.false_ne_true] at h
                by_cases hz : 0 < s6.size
                · rw [if_pos hz] at h
                  obtain ⟨N1, N2⟩ := Prod.mk.inj (Option.some.inj h)
                  subst N1 N2
                  have c1 : decide (0 < (s6.size : Int)) = true := decide_eq_true (by omega)
                  have c2 : decide (0 < s6.size) = true := decide_eq_true hz
                  clear h hz
                  have X := (computusref03_scan_num.calls k _ s5 b5 2 2 ss s6 false w w5 HI5.out HB5.out Q6.out)
                  with_reducible refine X.mono ?_
                  clear X
                  rintro e w6 ⟨rfl, hi, hb, hk⟩
                  have HI6 := Aside0.mk hi
                  have HB6 := Aside0.mk hb
                  have z60 := s48_z0 hi
                  have z61 := s48_z1 hi
                  have y60 := s48_y0 hi
                  have y61 := s48_y1 hi
                  clear hi hb hk
                  go_wp2_with (fail)
                  go_ret2
                  exact ⟨by first | rfl | simp, HB6.out⟩
                · rw [if_neg hz] at h
                  have c1 : decide (0 < (s6.size : Int)) = false := decide_eq_false (by omega)
                  have c2 : decide (0 < s6.size) = false := decide_eq_false hz
                  clear hz
                  by_cases hg : 0 ≤ (hh : Int) ∧ (hh : Int) ≤ 99 ∧ 0 ≤ (mm : Int) ∧ (mm : Int) ≤ 99 ∧ 0 ≤ (ss : Int) ∧ (ss : Int) ≤ 99
                  · rw [if_pos hg] at h
                    obtain ⟨g1, g2, g3, g4, g5, g6⟩ := hg
                    by_cases d1 : 59 < (mm : Int)
                    · rw [if_pos d1] at h
                      have e1 : decide (59 < (mm : Int)) = true := decide_eq_true d1
                      obtain ⟨N1, N2⟩ := Prod.mk.inj (Option.some.inj h)
                      subst N1 N2
                      clear h
                      have X := (computusref03_scan_num.calls k _ s5 b5 2 2 ss s6 false w w5 HI5.out HB5.out Q6.out)
                      with_reducible refine X.mono ?_
                      clear X
                      rintro e w6 ⟨rfl, hi, hb, hk⟩
                      have HI6 := Aside0.mk hi
                      have HB6 := Aside0.mk hb
                      have z60 := s48_z0 hi
                      have z61 := s48_z1 hi
                      have y60 := s48_y0 hi
                      have y61 := s48_y1 hi
                      clear hi hb hk
                      go_wp2_with (fail)
                      go_ret2
                      exact ⟨by first | rfl | simp, HB6.out⟩
                    rw [if_neg d1] at h
                    have e1 : decide (59 < (mm : Int)) = false := decide_eq_false d1
                    by_cases d2 : 59 < (ss : Int)
                    · rw [if_pos d2] at h
                      have e2 : decide (59 < (ss : Int)) = true := decide_eq_true d2
                      obtain ⟨N1, N2⟩ := Prod.mk.inj (Option.some.inj h)
                      subst N1 N2
                      clear h
                      have X := (computusref03_scan_num.calls k _ s5 b5 2 2 ss s6 false w w5 HI5.out HB5.out Q6.out)
                      with_reducible refine X.mono ?_
                      clear X
                      rintro e w6 ⟨rfl, hi, hb, hk⟩
                      have HI6 := Aside0.mk hi
                      have HB6 := Aside0.mk hb
                      have z60 := s48_z0 hi
                      have z61 := s48_z1 hi
                      have y60 := s48_y0 hi
                      have y61 := s48_y1 hi
                      clear hi hb hk
                      go_wp2_with (fail)
                      go_ret2
                      exact ⟨by first | rfl | simp, HB6.out⟩
                    rw [if_neg d2] at h
                    have e2 : decide (59 < (ss : Int)) = false := decide_eq_false d2
                    by_cases d3 : 57599 < (hh : Int) * 3600 + (mm : Int) * 60 + (ss : Int)
                    · rw [if_pos d3] at h
                      have e3 : decide (57599 < hh * 3600 + mm * 60 + ss) = true := decide_eq_true (by omega)
                      obtain ⟨N1, N2⟩ := Prod.mk.inj (Option.some.inj h)
                      subst N1 N2
                      clear h
                      have X := (computusref03_scan_num.calls k _ s5 b5 2 2 ss s6 false w w5 HI5.out HB5.out Q6.out)
                      with_reducible refine X.mono ?_
                      clear X
                      rintro e w6 ⟨rfl, hi, hb, hk⟩
                      have HI6 := Aside0.mk hi
                      have HB6 := Aside0.mk hb
                      have z60 := s48_z0 hi
                      have z61 := s48_z1 hi
                      have y60 := s48_y0 hi
                      have y61 := s48_y1 hi
                      clear hi hb hk
                      go_wp2_with (fail)
                      go_ret2
                      exact ⟨by first | rfl | simp, HB6.out⟩
                    rw [if_neg d3] at h
                    have e3 : decide (57599 < hh * 3600 + mm * 60 + ss) = false := decide_eq_false (by omega)
                    rw [if_pos rfl] at h
                    obtain ⟨N1, N2⟩ := Prod.mk.inj (Option.some.inj h)
                    subst N1 N2
                    clear h
                    have X := (computusref03_scan_num.calls k _ s5 b5 2 2 ss s6 false w w5 HI5.out HB5.out Q6.out)
                    with_reducible refine X.mono ?_
                    clear X
                    rintro e w6 ⟨rfl, hi, hb, hk⟩
                    have HI6 := Aside0.mk hi
                    have HB6 := Aside0.mk hb
                    have z60 := s48_z0 hi
                    have z61 := s48_z1 hi
                    have y60 := s48_y0 hi
                    have y61 := s48_y1 hi
                    clear hi hb hk
                    go_wp2_with (fail)
                    go_ret2
                    exact ⟨by first | rfl | simp, HB6.out⟩
                  · rw [if_neg hg] at h
                    cases h
      · have f1 : ((s1.size : Int) == 4) = false := by simp; omega
        clear k1 k4
        have X := (computusref03_scan_sign.calls _ a0 false 45 true s1 b1 w _ (IsS48.new w w a0 false (Below.refl _ _)) (below_alloc (Below.refl _ _) _) Q1.out)
        with_reducible refine X.mono ?_
        clear X
        rintro e w1 ⟨rfl, hi, hb, hk⟩
        have HI1 := Aside0.mk hi
        have HB1 := Aside0.mk hb
        have z10 := s48_z0 hi
        have z11 := s48_z1 hi
        have y10 := s48_y0 hi
        have y11 := s48_y1 hi
        clear hi hb hk
        go_wp2_with (fail)
        have X := (computusref03_scan_num.calls k _ s1 b1 1 2 hh s2 b2 w w1 HI1.out HB1.out Q2.out)
        with_reducible refine X.mono ?_
        clear X
        rintro e w2 ⟨rfl, hi, hb, hk⟩
        have HI2 := Aside0.mk hi
        have HB2 := Aside0.mk hb
        have z20 := s48_z0 hi
        have z21 := s48_z1 hi
        have y20 := s48_y0 hi
        have y21 := s48_y1 hi
        clear hi hb hk
        go_wp2_with (fail)
        cases o2 with
        | false =>
          have h := H.out
          rw [if_neg Bool.false_ne_true] at h
          replace H := Aside0.mk h
          clear h
          have h := H.out
          unfold roEnd at h
          clear H
          cases b3 with
          | true =>
            rw [if_pos rfl] at h
            obtain ⟨N1, N2⟩ := Prod.mk.inj (Option.some.inj h)
            subst N1 N2
            clear h
            have X := (computusref03_scan_sign.calls _ s2 b2 58 false s3 true w w2 HI2.out HB2.out Q3.out)
            with_reducible refine X.mono ?_
            clear X
            rintro e w3 ⟨rfl, hi, hb, hk⟩
            have HI3 := Aside0.mk hi
            have HB3 := Aside0.mk hb
            have z30 := s48_z0 hi
            have z31 := s48_z1 hi
            have y30 := s48_y0 hi
            have y31 := s48_y1 hi
            clear hi hb hk
            go_wp2_with (fail)
            go_ret2
            exact ⟨by first | rfl | simp, HB3.out⟩
          | false =>
            rw [if_neg Bool.false_ne_true] at h
            by_cases hz : 0 < s3.size
            · rw [if_pos hz] at h
              obtain ⟨N1, N2⟩ := Prod.mk.inj (Option.some.inj h)
              subst N1 N2
              have c1 : decide (0 < (s3.size : Int)) = true := decide_eq_true (by omega)
              have c2 : decide (0 < s3.size) = true := decide_eq_true hz
              clear h hz
              have X := (computusref03_scan_sign.calls _ s2 b2 58 false s3 false w w2 HI2.out HB2.out Q3.out)
              with_reducible refine X.mono ?_
              clear X
              rintro e w3 ⟨rfl, hi, hb, hk⟩
              have HI3 := Aside0.mk hi
              have HB3 := Aside0.mk hb
              have z30 := s48_z0 hi
              have z31 := s48_z1 hi
              have y30 := s48_y0 hi
              have y31 := s48_y1 hi
              clear hi hb hk
              go_wp2_with (fail)
              go_ret2
              exact ⟨by first | rfl | simp, HB3.out⟩
            · rw [if_neg hz] at h
              have c1 : decide (0 < (s3.size : Int)) = false := decide_eq_false (by omega)
              have c2 : decide (0 < s3.size) = false := decide_eq_false hz
              clear hz
              by_cases hg : 0 ≤ (hh : Int) ∧ (hh : Int) ≤ 99 ∧ 0 ≤ (0 : Int) ∧ (0 : Int) ≤ 99 ∧ 0 ≤ (0 : Int) ∧ (0 : Int) ≤ 99
              · rw [if_pos hg] at h
                obtain ⟨g1, g2, g3, g4, g5, g6⟩ := hg
                by_cases d1 : 59 < (0 : Int)
                · rw [if_pos d1] at h
                  have e1 : decide (59 < (0 : Int)) = true := decide_eq_true d1
                  exact absurd d1 (by decide)
                rw [if_neg d1] at h
                have e1 : decide (59 < (0 : Int)) = false := decide_eq_false d1
                by_cases d2 : 59 < (0 : Int)
                · rw [if_pos d2] at h
                  have e2 : decide (59 < (0 : Int)) = true := decide_eq_true d2
                  exact absurd d2 (by decide)
                rw [if_neg d2] at h
                have e2 : decide (59 < (0 : Int)) = false := decide_eq_false d2
                by_cases d3 : 57599 < (hh : Int) * 3600 + (0 : Int) * 60 + (0 : Int)
                · rw [if_pos d3] at h
                  have e3 : decide (57599 < hh * 3600) = true := decide_eq_true (by omega)
                  obtain ⟨N1, N2⟩ := Prod.mk.inj (Option.some.inj h)
                  subst N1 N2
                  clear h
                  have X := (computusref03_scan_sign.calls _ s2 b2 58 false s3 false w w2 HI2.out HB2.out Q3.out)
                  with_reducible refine X.mono ?_
                  clear X
                  rintro e w3 ⟨rfl, hi, hb, hk⟩
                  have HI3 := Aside0.mk hi
                  have HB3 := Aside0.mk hb
                  have z30 := s48_z0 hi
                  have z31 := s48_z1 hi
                  have y30 := s48_y0 hi
                  have y31 := s48_y1 hi
                  clear hi hb hk
                  go_wp2_with (fail)
                  go_ret2
                  exact ⟨by first | rfl | simp, HB3.out⟩
                rw [if_neg d3] at h
                have e3 : decide (57599 < hh * 3600) = false := decide_eq_false (by omega)
                rw [if_pos rfl] at h
                obtain ⟨N1, N2⟩ := Prod.mk.inj (Option.some.inj h)
                subst N1 N2
                clear h
                have X := (computusref03_scan_sign.calls _ s2 b2 58 false s3 false w w2 HI2.out HB2.out Q3.out)
                with_reducible refine X.mono ?_
                clear X
                rintro e w3 ⟨rfl, hi, hb, hk⟩
                have HI3 := Aside0.mk hi
                have HB3 := Aside0.mk hb
                have z30 := s48_z0 hi
                have z31 := s48_z1 hi
                have y30 := s48_y0 hi
                have y31 := s48_y1 hi
                clear hi hb hk
                go_wp2_with (fail)
                go_ret2
                exact ⟨by first | rfl | simp, HB3.out⟩
              · rw [if_neg hg] at h
                cases h
        | true =>
          have h := H.out
          rw [if_pos rfl] at h
          obtain ⟨⟨mm, s4, b4⟩, q3, h⟩ := Option.bind_eq_some_iff.mp h
          obtain ⟨⟨o4, s5, b5⟩, q4, h⟩ := Option.bind_eq_some_iff.mp h
          simp only at q3 q4 h
          have Q4 := Aside0.mk q3
          have Q5 := Aside0.mk q4
          replace H := Aside0.mk h
          clear q3 q4 h
          have X := (computusref03_scan_sign.calls _ s2 b2 58 true s3 b3 w w2 HI2.out HB2.out Q3.out)
          with_reducible refine X.mono ?_
          clear X
          rintro e w3 ⟨rfl, hi, hb, hk⟩
          have HI3 := Aside0.mk hi
          have HB3 := Aside0.mk hb
          have z30 := s48_z0 hi
          have z31 := s48_z1 hi
          have y30 := s48_y0 hi
          have y31 := s48_y1 hi
          clear hi hb hk
          go_wp2_with (fail)
          have X := (computusref03_scan_num.calls k _ s3 b3 2 2 mm s4 b4 w w3 HI3.out HB3.out Q4.out)
          with_reducible refine X.mono ?_
          clear X
          rintro e w4 ⟨rfl, hi, hb, hk⟩
          have HI4 := Aside0.mk hi
          have HB4 := Aside0.mk hb
          have z40 := s48_z0 hi
          have z41 := s48_z1 hi
          have y40 := s48_y0 hi
          have y41 := s48_y1 hi
          clear hi hb hk
          go_wp2_with (fail)
          cases o4 with
          | false =>
            have h := H.out
            rw [if_neg Bool.false_ne_true] at h
            replace H := Aside0.mk h
            clear h
            have h := H.out
            unfold roEnd at h
            clear H
            cases b5 with
            | true =>
              rw [if_pos rfl] at h
              obtain ⟨N1, N2⟩ := Prod.mk.inj (Option.some.inj h)
              subst N1 N2
              clear h
              have X := (computusref03_scan_sign.calls _ s4 b4 58 false s5 true w w4 HI4.out HB4.out Q5.out)
              with_reducible refine X.mono ?_
              clear X
              rintro e w5 ⟨rfl, hi, hb, hk⟩
              have HI5 := Aside0.mk hi
              have HB5 := Aside0.mk hb
              have z50 := s48_z0 hi
              have z51 := s48_z1 hi
              have y50 := s48_y0 hi
              have y51 := s48_y1 hi
              clear hi hb hk
              go_wp2_with (fail)
              go_ret2
              exact ⟨by first | rfl | simp, HB5.out⟩
            | false =>
              rw [if_neg Bool.false_ne_true] at h
              by_cases hz : 0 < s5.size
              · rw [if_pos hz] at h
                obtain ⟨N1, N2⟩ := Prod.mk.inj (Option.some.inj h)
                subst N1 N2
                have c1 : decide (0 < (s5.size : Int)) = true := decide_eq_true (by omega)
                have c2 : decide (0 < s5.size) = true := decide_eq_true hz
                clear h hz
                have X := (computusref03_scan_sign.calls _ s4 b4 58 false s5 false w w4 HI4.out HB4.out Q5.out)
                with_reducible refine X.mono ?_
                clear X
                rintro e w5 ⟨rfl, hi, hb, hk⟩
                have HI5 := Aside0.mk hi
                have HB5 := Aside0.mk hb
                have z50 := s48_z0 hi
                have z51 := s48_z1 hi
                have y50 := s48_y0 hi
                have y51 := s48_y1 hi
                clear hi hb hk
                go_wp2_with (fail)
                go_ret2
                exact ⟨by first | rfl | simp, HB5.out⟩
              · rw [if_neg hz] at h
                have c1 : decide (0 < (s5.size : Int)) = false := decide_eq_false (by omega)
                have c2 : decide (0 < s5.size) = false := decide_eq_false hz
                clear hz
                by_cases hg : 0 ≤ (hh : Int) ∧ (hh : Int) ≤ 99 ∧ 0 ≤ (mm : Int) ∧ (mm : Int) ≤ 99 ∧ 0 ≤ (0 : Int) ∧ (0 : Int) ≤ 99
                · rw [if_pos hg] at h
                  obtain ⟨g1, g2, g3, g4, g5, g6⟩ := hg
                  by_cases d1 : 59 < (mm : Int)
                  · rw [if_pos d1] at h
                    have e1 : decide (59 < (mm : Int)) = true := decide_eq_true d1
                    obtain ⟨N1, N2⟩ := Prod.mk.inj (Option.some.inj h)
                    subst N1 N2
                    clear h
                    have X := (computusref03_scan_sign.calls _ s4 b4 58 false s5 false w w4 HI4.out HB4.out Q5.out)
                    with_reducible refine X.mono ?_
                    clear X
                    rintro e w5 ⟨rfl, hi, hb, hk⟩
                    have HI5 := Aside0.mk hi
                    have HB5 := Aside0.mk hb
                    have z50 := s48_z0 hi
                    have z51 := s48_z1 hi
                    have y50 := s48_y0 hi
                    have y51 := s48_y1 hi
                    clear hi hb hk
                    go_wp2_with (fail)
                    go_ret2
                    exact ⟨by first | rfl | simp, HB5.out⟩
                  rw [if_neg d1] at h
                  have e1 : decide (59 < (mm : Int)) = false := decide_eq_false d1
                  by_cases d2 : 59 < (0 : Int)
                  · rw [if_pos d2] at h
                    have e2 : decide (59 < (0 : Int)) = true := decide_eq_true d2
                    exact absurd d2 (by decide)
                  rw [if_neg d2] at h
                  have e2 : decide (59 < (0 : Int)) = false := decide_eq_false d2
                  by_cases d3 : 57599 < (hh : Int) * 3600 + (mm : Int) * 60 + (0 : Int)
                  · rw [if_pos d3] at h
                    have e3 : decide (57599 < hh * 3600 + mm * 60) = true := decide_eq_true (by omega)
                    obtain ⟨N1, N2⟩ := Prod.mk.inj (Option.some.inj h)
                    subst N1 N2
                    clear h
                    have X := (computusref03_scan_sign.calls _ s4 b4 58 false s5 false w w4 HI4.out HB4.out Q5.out)
                    with_reducible refine X.mono ?_
                    clear X
                    rintro e w5 ⟨rfl, hi, hb, hk⟩
                    have HI5 := Aside0.mk hi
                    have HB5 := Aside0.mk hb
                    have z50 := s48_z0 hi
                    have z51 := s48_z1 hi
                    have y50 := s48_y0 hi
                    have y51 := s48_y1 hi
                    clear hi hb hk
                    go_wp2_with (fail)
                    go_ret2
                    exact ⟨by first | rfl | simp, HB5.out⟩
                  rw [if_neg d3] at h
                  have e3 : decide (57599 < hh * 3600 + mm * 60) = false := decide_eq_false (by omega)
                  rw [if_pos rfl] at h
                  obtain ⟨N1, N2⟩ := Prod.mk.inj (Option.some.inj h)
                  subst N1 N2
                  clear h
                  have X := (computusref03_scan_sign.calls _ s4 b4 58 false s5 false w w4 HI4.out HB4.out Q5.out)
                  with_reducible refine X.mono ?_
                  clear X
                  rintro e w5 ⟨rfl, hi, hb, hk⟩
                  have HI5 := Aside0.mk hi
                  have HB5 := Aside0.mk hb
                  have z50 := s48_z0 hi
                  have z51 := s48_z1 hi
                  have y50 := s48_y0 hi
                  have y51 := s48_y1 hi
                  clear hi hb hk
                  go_wp2_with (fail)
                  go_ret2
                  exact ⟨by first | rfl | simp, HB5.out⟩
                · rw [if_neg hg] at h
                  cases h
          | true =>
            have h := H.out
            rw [if_pos rfl] at h
            obtain ⟨⟨ss, s6, b6⟩, q5, h⟩ := Option.bind_eq_some_iff.mp h
            simp only at q5 h
            have Q6 := Aside0.mk q5
            replace H := Aside0.mk h
            clear q5 h
            have X := (computusref03_scan_sign.calls _ s4 b4 58 true s5 b5 w w4 HI4.out HB4.out Q5.out)
            with_reducible refine X.mono ?_
            clear X
            rintro e w5 ⟨rfl, hi, hb, hk⟩
            have HI5 := Aside0.mk hi
            have HB5 := Aside0.mk hb
            have z50 := s48_z0 hi
            have z51 := s48_z1 hi
            have y50 := s48_y0 hi
            have y51 := s48_y1 hi
            clear hi hb hk
            go_wp2_with (fail)
            have h := H.out
            unfold roEnd at h
            clear H
            cases b6 with
            | true =>
              rw [if_pos rfl] at h
              obtain ⟨N1, N2⟩ := Prod.mk.inj (Option.some.inj h)
              subst N1 N2
              clear h
              have X := (computusref03_scan_num.calls k _ s5 b5 2 2 ss s6 true w w5 HI5.out HB5.out Q6.out)
              with_reducible refine X.mono ?_
              clear X
              rintro e w6 ⟨rfl, hi, hb, hk⟩
              have HI6 := Aside0.mk hi
              have HB6 := Aside0.mk hb
              have z60 := s48_z0 hi
              have z61 := s48_z1 hi
              have y60 := s48_y0 hi
              have y61 := s48_y1 hi
              clear hi hb hk
              go_wp2_with (fail)
              go_ret2
              exact ⟨by first | rfl | simp, HB6.out⟩
            | false =>
              rw [if_neg Bool.false_ne_true] at h
              by_cases hz : 0 < s6.size
              · rw [if_pos hz] at h
                obtain ⟨N1, N2⟩ := Prod.mk.inj (Option.some.inj h)
                subst N1 N2
                have c1 : decide (0 < (s6.size : Int)) = true := decide_eq_true (by omega)
                have c2 : decide (0 < s6.size) = true := decide_eq_true hz
                clear h hz
                have X := (computusref03_scan_num.calls k _ s5 b5 2 2 ss s6 false w w5 HI5.out HB5.out Q6.out)
                with_reducible refine X.mono ?_
                clear X
                rintro e w6 ⟨rfl, hi, hb, hk⟩
                have HI6 := Aside0.mk hi
                have HB6 := Aside0.mk hb
                have z60 := s48_z0 hi
                have z61 := s48_z1 hi
                have y60 := s48_y0 hi
                have y61 := s48_y1 hi
                clear hi hb hk
                go_wp2_with (fail)
                go_ret2
                exact ⟨by first | rfl | simp, HB6.out⟩
              · rw [if_neg hz] at h
                have c1 : decide (0 < (s6.size : Int)) = false := decide_eq_false (by omega)
                have c2 : decide (0 < s6.size) = false := decide_eq_false hz
                clear hz
                by_cases hg : 0 ≤ (hh : Int) ∧ (hh : Int) ≤ 99 ∧ 0 ≤ (mm : Int) ∧ (mm : Int) ≤ 99 ∧ 0 ≤ (ss : Int) ∧ (ss : Int) ≤ 99
                · rw [if_pos hg] at h
                  obtain ⟨g1, g2, g3, g4, g5, g6⟩ := hg
                  by_cases d1 : 59 < (mm : Int)
                  · rw [if_pos d1] at h
                    have e1 : decide (59 < (mm : Int)) = true := decide_eq_true d1
                    obtain ⟨N1, N2⟩ := Prod.mk.inj (Option.some.inj h)
                    subst N1 N2
                    clear h
                    have X := (computusref03_scan_num.calls k _ s5 b5 2 2 ss s6 false w w5 HI5.out HB5.out Q6.out)
                    with_reducible refine X.mono ?_
                    clear X
                    rintro e w6 ⟨rfl, hi, hb, hk⟩
                    have HI6 := Aside0.mk hi
                    have HB6 := Aside0.mk hb
                    have z60 := s48_z0 hi
                    have z61 := s48_z1 hi
                    have y60 := s48_y0 hi
                    have y61 := s48_y1 hi
                    clear hi hb hk
                    go_wp2_with (fail)
                    go_ret2
                    exact ⟨by first | rfl | simp, HB6.out⟩
                  rw [if_neg d1] at h
                  have e1 : decide (59 < (mm : Int)) = false := decide_eq_false d1
                  by_cases d2 : 59 < (ss : Int)
                  · rw [if_pos d2] at h
                    have e2 : decide (59 < (ss : Int)) = true := decide_eq_true d2
                    obtain ⟨N1, N2⟩ := Prod.mk.inj (Option.some.inj h)
                    subst N1 N2
                    clear h
                    have X := (computusref03_scan_num.calls k _ s5 b5 2 2 ss s6 false w w5 HI5.out HB5.out Q6.out)
                    with_reducible refine X.mono ?_
                    clear X
                    rintro e w6 ⟨rfl, hi, hb, hk⟩
                    have HI6 := Aside0.mk hi
                    have HB6 := Aside0.mk hb
                    have z60 := s48_z0 hi
                    have z61 := s48_z1 hi
                    have y60 := s48_y0 hi
                    have y61 := s48_y1 hi
                    clear hi hb hk
                    go_wp2_with (fail)
                    go_ret2
                    exact ⟨by first | rfl | simp, HB6.out⟩
                  rw [if_neg d2] at h
                  have e2 : decide (59 < (ss : Int)) = false := decide_eq_false d2
                  by_cases d3 : 57599 < (hh : Int) * 3600 + (mm : Int) * 60 + (ss : Int)
                  · rw [if_pos d3] at h
                    have e3 : decide (57599 < hh * 3600 + mm * 60 + ss) = true := decide_eq_true (by omega)
                    obtain ⟨N1, N2⟩ := Prod.mk.inj (Option.some.inj h)
                    subst N1 N2
                    clear h
                    have X := (computusref03_scan_num.calls k _ s5 b5 2 2 ss s6 false w w5 HI5.out HB5.out Q6.out)
                    with_reducible refine X.mono ?_
                    clear X
                    rintro e w6 ⟨rfl, hi, hb, hk⟩
                    have HI6 := Aside0.mk hi
                    have HB6 := Aside0.mk hb
                    have z60 := s48_z0 hi
                    have z61 := s48_z1 hi
                    have y60 := s48_y0 hi
                    have y61 := s48_y1 hi
                    clear hi hb hk
                    go_wp2_with (fail)
                    go_ret2
                    exact ⟨by first | rfl | simp, HB6.out⟩
                  rw [if_neg d3] at h
                  have e3 : decide (57599 < hh * 3600 + mm * 60 + ss) = false := decide_eq_false (by omega)
                  rw [if_pos rfl] at h
                  obtain ⟨N1, N2⟩ := Prod.mk.inj (Option.some.inj h)
                  subst N1 N2
                  clear h
                  have X := (computusref03_scan_num.calls k _ s5 b5 2 2 ss s6 false w w5 HI5.out HB5.out Q6.out)
                  with_reducible refine X.mono ?_
                  clear X
                  rintro e w6 ⟨rfl, hi, hb, hk⟩
                  have HI6 := Aside0.mk hi
                  have HB6 := Aside0.mk hb
                  have z60 := s48_z0 hi
                  have z61 := s48_z1 hi
                  have y60 := s48_y0 hi
                  have y61 := s48_y1 hi
                  clear hi hb hk
                  go_wp2_with (fail)
                  go_ret2
                  exact ⟨by first | rfl | simp, HB6.out⟩
                · rw [if_neg hg] at h
                  cases h
  | false =>
    have h := H.out
    rw [if_neg Bool.false_ne_true] at h
    obtain ⟨⟨o2, s2, b2⟩, q2, h⟩ := Option.bind_eq_some_iff.mp h
    simp only at q2 h
    have Q2 := Aside0.mk q2
    replace H := Aside0.mk h
    clear q2 h
    have X := (computusref03_scan_sign.calls _ a0 false 45 false s1 b1 w _ (IsS48.new w w a0 false (Below.refl _ _)) (below_alloc (Below.refl _ _) _) Q1.out)
    with_reducible refine X.mono ?_
    clear X
    rintro e w1 ⟨rfl, hi, hb, hk⟩
    have HI1 := Aside0.mk hi
    have HB1 := Aside0.mk hb
    have z10 := s48_z0 hi
    have z11 := s48_z1 hi
    have y10 := s48_y0 hi
    have y11 := s48_y1 hi
    clear hi hb hk
    go_wp2_with (fail)
    cases o2 with
    | false =>
      have h := H.out
      rw [if_neg Bool.false_ne_true] at h
      obtain ⟨N1, N2⟩ := Prod.mk.inj (Option.some.inj h)
      subst N1 N2
      clear h H
      have X := (computusref03_scan_sign.calls _ s1 b1 43 false s2 b2 w w1 HI1.out HB1.out Q2.out)
      with_reducible refine X.mono ?_
      clear X
      rintro e w2 ⟨rfl, hi, hb, hk⟩
      have HI2 := Aside0.mk hi
      have HB2 := Aside0.mk hb
      have z20 := s48_z0 hi
      have z21 := s48_z1 hi
      have y20 := s48_y0 hi
      have y21 := s48_y1 hi
      clear hi hb hk
      go_wp2_with (fail)
      go_ret2
      exact ⟨by first | rfl | simp, HB2.out⟩
    | true =>
      have h := H.out
      rw [if_pos rfl] at h
      replace H := Aside0.mk h
      clear h
      have h := H.out
      unfold roBody at h
      clear H
      by_cases k4 : s2.size = 4 ∧ ¬ bt s2 1 = 58 ∧ ¬ bt s2 2 = 58
      · rw [if_pos k4] at h
        obtain ⟨⟨hh, s3, b3⟩, q1, h⟩ := Option.bind_eq_some_iff.mp h
        obtain ⟨⟨mm, s4, b4⟩, q2, h⟩ := Option.bind_eq_some_iff.mp h
        simp only at q1 q2 h
        have Q3 := Aside0.mk q1
        have Q4 := Aside0.mk q2
        have H := Aside0.mk h
        obtain ⟨k1, k2, k3⟩ := k4
        have f1 : ((s2.size : Int) == 4) = true := by simp; omega
        have f2 : (bt s2 1 != 58) = true := by simpa using k2
        have f3 : (bt s2 2 != 58) = true := by simpa using k3
        clear q1 q2 h k2 k3
        have q1 : 1 < s2.size := by omega
        have hx1 : ∀ h : 1 < s2.size, ((s2[1]'h).toNat : Int) = bt s2 1 := bt_at s2 1
        have qi1 : (1 < (s2.size : Int)) = True := eq_true (by omega)
        replace q1 := eq_true q1
        have q2 : 2 < s2.size := by omega
        have hx2 : ∀ h : 2 < s2.size, ((s2[2]'h).toNat : Int) = bt s2 2 := bt_at s2 2
        have qi2 : (2 < (s2.size : Int)) = True := eq_true (by omega)
        replace q2 := eq_true q2
        clear k1
        have X := (computusref03_scan_sign.calls _ s1 b1 43 true s2 b2 w w1 HI1.out HB1.out Q2.out)
        with_reducible refine X.mono ?_
        clear X
        rintro e w2 ⟨rfl, hi, hb, hk⟩
        have HI2 := Aside0.mk hi
        have HB2 := Aside0.mk hb
        have z20 := s48_z0 hi
        have z21 := s48_z1 hi
        have y20 := s48_y0 hi
        have y21 := s48_y1 hi
        clear hi hb hk
        go_wp2_with (fail)
        have X := (computusref03_scan_num.calls k _ s2 b2 2 2 hh s3 b3 w w2 HI2.out HB2.out Q3.out)
        with_reducible refine X.mono ?_
        clear X
        rintro e w3 ⟨rfl, hi, hb, hk⟩
        have HI3 := Aside0.mk hi
        have HB3 := Aside0.mk hb
        have z30 := s48_z0 hi
        have z31 := s48_z1 hi
        have y30 := s48_y0 hi
        have y31 := s48_y1 hi
        clear hi hb hk
        go_wp2_with (fail)
        have h := H.out
        unfold roEnd at h
        clear H
        cases b4 with
        | true =>
          rw [if_pos rfl] at h
          obtain ⟨N1, N2⟩ := Prod.mk.inj (Option.some.inj h)
          subst N1 N2
          clear h
          have X := (computusref03_scan_num.calls k _ s3 b3 2 2 mm s4 true w w3 HI3.out HB3.out Q4.out)
          with_reducible refine X.mono ?_
          clear X
          rintro e w4 ⟨rfl, hi, hb, hk⟩
          have HI4 := Aside0.mk hi
          have HB4 := Aside0.mk hb
          have z40 := s48_z0 hi
          have z41 := s48_z1 hi
          have y40 := s48_y0 hi
          have y41 := s48_y1 hi
          clear hi hb hk
          go_wp2_with (fail)
          go_ret2
          exact ⟨by first | rfl | simp, HB4.out⟩
        | false =>
          rw [if_neg Bool.false_ne_true] at h
          by_cases hz : 0 < s4.size
          · rw [if_pos hz] at h
            obtain ⟨N1, N2⟩ := Prod.mk.inj (Option.some.inj h)
            subst N1 N2
            have c1 : decide (0 < (s4.size : Int)) = true := decide_eq_true (by omega)
            have c2 : decide (0 < s4.size) = true := decide_eq_true hz
            clear h hz
            have X := (computusref03_scan_num.calls k _ s3 b3 2 2 mm s4 false w w3 HI3.out HB3.out Q4.out)
            with_reducible refine X.mono ?_
            clear X
            rintro e w4 ⟨rfl, hi, hb, hk⟩
            have HI4 := Aside0.mk hi
            have HB4 := Aside0.mk hb
            have z40 := s48_z0 hi
            have z41 := s48_z1 hi
            have y40 := s48_y0 hi
            have y41 := s48_y1 hi
            clear hi hb hk
            go_wp2_with (fail)
            go_ret2
            exact ⟨by first | rfl | simp, HB4.out⟩
          · rw [if_neg hz] at h
            have c1 : decide (0 < (s4.size : Int)) = false := decide_eq_false (by omega)
            have c2 : decide (0 < s4.size) = false := decide_eq_false hz
            clear hz
            by_cases hg : 0 ≤ (hh : Int) ∧ (hh : Int) ≤ 99 ∧ 0 ≤ (mm : Int) ∧ (mm : Int) ≤ 99 ∧ 0 ≤ (0 : Int) ∧ (0 : Int) ≤ 99
            · rw [if_pos hg] at h
              obtain ⟨g1, g2, g3, g4, g5, g6⟩ := hg
              by_cases d1 : 59 < (mm : Int)
              · rw [if_pos d1] at h
                have e1 : decide (59 < (mm : Int)) = true := decide_eq_true d1
                obtain ⟨N1, N2⟩ := Prod.mk.inj (Option.some.inj h)
                subst N1 N2
                clear h
                have X := (computusref03_scan_num.calls k _ s3 b3 2 2 mm s4 false w w3 HI3.out HB3.out Q4.out)
                with_reducible refine X.mono ?_
                clear X
                rintro e w4 ⟨rfl, hi, hb, hk⟩
                have HI4 := Aside0.mk hi
                have HB4 := Aside0.mk hb
                have z40 := s48_z0 hi
                have z41 := s48_z1 hi
                have y40 := s48_y0 hi
                have y41 := s48_y1 hi
                clear hi hb hk
                go_wp2_with (fail)
                go_ret2
                exact ⟨by first | rfl | simp, HB4.out⟩
              rw [if_neg d1] at h
              have e1 : decide (59 < (mm : Int)) = false := decide_eq_false d1
              by_cases d2 : 59 < (0 : Int)
              · rw [if_pos d2] at h
                have e2 : decide (59 < (0 : Int)) = true := decide_eq_true d2
                exact absurd d2 (by decide)
              rw [if_neg d2] at h
              have e2 : decide (59 < (0 : Int)) = false := decide_eq_false d2
              by_cases d3 : 57599 < (hh : Int) * 3600 + (mm : Int) * 60 + (0 : Int)
              · rw [if_pos d3] at h
                have e3 : decide (57599 < hh * 3600 + mm * 60) = true := decide_eq_true (by omega)
                obtain ⟨N1, N2⟩ := Prod.mk.inj (Option.some.inj h)
                subst N1 N2
                clear h
                have X := (computusref03_scan_num.calls k _ s3 b3 2 2 mm s4 false w w3 HI3.out HB3.out Q4.out)
                with_reducible refine X.mono ?_
                clear X
                rintro e w4 ⟨rfl, hi, hb, hk⟩
                have HI4 := Aside0.mk hi
                have HB4 := Aside0.mk hb
                have z40 := s48_z0 hi
                have z41 := s48_z1 hi
                have y40 := s48_y0 hi
                have y41 := s48_y1 hi
                clear hi hb hk
                go_wp2_with (fail)
                go_ret2
                exact ⟨by first | rfl | simp, HB4.out⟩
              rw [if_neg d3] at h
              have e3 : decide (57599 < hh * 3600 + mm * 60) = false := decide_eq_false (by omega)
              rw [if_neg Bool.false_ne_true] at h
              obtain ⟨N1, N2⟩ := Prod.mk.inj (Option.some.inj h)
              subst N1 N2
              clear h
              have X := (computusref03_scan_num.calls k _ s3 b3 2 2 mm s4 false w w3 HI3.out HB3.out Q4.out)
              with_reducible refine X.mono ?_
              clear X
              rintro e w4 ⟨rfl, hi, hb, hk⟩
              have HI4 := Aside0.mk hi
              have HB4 := Aside0.mk hb
              have z40 := s48_z0 hi
              have z41 := s48_z1 hi
              have y40 := s48_y0 hi
              have y41 := s48_y1 hi
              clear hi hb hk
              go_wp2_with (fail)
              go_ret2
              exact ⟨by first | rfl | simp, HB4.out⟩
            · rw [if_neg hg] at h
              cases h
      · rw [if_neg k4] at h
        obtain ⟨⟨hh, s3, b3⟩, q1, h⟩ := Option.bind_eq_some_iff.mp h
        obtain ⟨⟨o2, s4, b4⟩, q2, h⟩ := Option.bind_eq_some_iff.mp h
        simp only at q1 q2 h
        have Q3 := Aside0.mk q1
        have Q4 := Aside0.mk q2
        have H := Aside0.mk h
        clear q1 q2 h
        by_cases k1 : s2.size = 4
        · have f1 : ((s2.size : Int) == 4) = true := by simp; omega
          have q1 : 1 < s2.size := by omega
          have hx1 : ∀ h : 1 < s2.size, ((s2[1]'h).toNat : Int) = bt s2 1 := bt_at s2 1
          have qi1 : (1 < (s2.size : Int)) = True := eq_true (by omega)
          replace q1 := eq_true q1
          by_cases k2 : bt s2 1 = 58
          · have f2 : (bt s2 1 != 58) = false := by simpa using k2
            clear k1 k2 k4
            have X := (computusref03_scan_sign.calls _ s1 b1 43 true s2 b2 w w1 HI1.out HB1.out Q2.out)
            with_reducible refine X.mono ?_
            clear X
            rintro e w2 ⟨rfl, hi, hb, hk⟩
            have HI2 := Aside0.mk hi
            have HB2 := Aside0.mk hb
            have z20 := s48_z0 hi
            have z21 := s48_z1 hi
            have y20 := s48_y0 hi
            have y21 := s48_y1 hi
            clear hi hb hk
            go_wp2_with (fail)
            have X := (computusref03_scan_num.calls k _ s2 b2 1 2 hh s3 b3 w w2 HI2.out HB2.out Q3.out)
            with_reducible refine X.mono ?_
            clear X
            rintro e w3 ⟨rfl, hi, hb, hk⟩
            have HI3 := Aside0.mk hi
            have HB3 := Aside0.mk hb
            have z30 := s48_z0 hi
            have z31 := s48_z1 hi
            have y30 := s48_y0 hi
            have y31 := s48_y1 hi
            clear hi hb hk
            go_wp2_with (fail)
            cases o2 with
            | false =>
              have h := H.out
              rw [if_neg Bool.false_ne_true] at h
              replace H := Aside0.mk h
              clear h
              have h := H.out
              unfold roEnd at h
              clear H
              cases b4 with
              | true =>
                rw [if_pos rfl] at h
                obtain ⟨N1, N2⟩ := Prod.mk.inj (Option.some.inj h)
                subst N1 N2
                clear h
                have X := (computusref03_scan_sign.calls _ s3 b3 58 false s4 true w w3 HI3.out HB3.out Q4.out)
                with_reducible refine X.mono ?_
                clear X
                rintro e w4 ⟨rfl, hi, hb, hk⟩
                have HI4 := Aside0.mk hi
                have HB4 := Aside0.mk hb
                have z40 := s48_z0 hi
                have z41 := s48_z1 hi
                have y40 := s48_y0 hi
                have y41 := s48_y1 hi
                clear hi hb hk
                go_wp2_with (fail)
                go_ret2
                exact ⟨by first | rfl | simp, HB4.out⟩
              | false =>
                rw [if_neg Bool.false_ne_true] at h
                by_cases hz : 0 < s4.size
                · rw [if_pos hz] at h
                  obtain ⟨N1, N2⟩ := Prod.mk.inj (Option.some.inj h)
                  subst N1 N2
                  have c1 : decide (0 < (s4.size : Int)) = true := decide_eq_true (by omega)
                  have c2 : decide (0 < s4.size) = true := decide_eq_true hz
                  clear h hz
                  have X := (computusref03_scan_sign.calls _ s3 b3 58 false s4 false w w3 HI3.out HB3.out Q4.out)
                  with_reducible refine X.mono ?_
                  clear X
                  rintro e w4 ⟨rfl, hi, hb, hk⟩
                  have HI4 := Aside0.mk hi
                  have HB4 := Aside0.mk hb
                  have z40 := s48_z0 hi
                  have z41 := s48_z1 hi
                  have y40 := s48_y0 hi
                  have y41 := s48_y1 hi
                  clear hi hb hk
                  go_wp2_with (fail)
                  go_ret2
                  exact ⟨by first | rfl | simp, HB4.out⟩
                · rw [if_neg hz] at h
                  have c1 : decide (0 < (s4.size : Int)) = false := decide_eq_false (by omega)
                  have c2 : decide (0 < s4.size) = false := decide_eq_false hz
                  clear hz
                  by_cases hg : 0 ≤ (hh : Int) ∧ (hh : Int) ≤ 99 ∧ 0 ≤ (0 : Int) ∧ (0 : Int) ≤ 99 ∧ 0 ≤ (0 : Int) ∧ (0 : Int) ≤ 99
                  · rw [if_pos hg] at h
                    obtain ⟨g1, g2, g3, g4, g5, g6⟩ := hg
                    by_cases d1 : 59 < (0 : Int)
                    · rw [if_pos d1] at h
                      have e1 : decide (59 < (0 : Int)) = true := decide_eq_true d1
                      exact absurd d1 (by decide)
                    rw [if_neg d1] at h
                    have e1 : decide (59 < (0 : Int)) = false := decide_eq_false d1
                    by_cases d2 : 59 < (0 : Int)
                    · rw [if_pos d2] at h
                      have e2 : decide (59 < (0 : Int)) = true := decide_eq_true d2
                      exact absurd d2 (by decide)
                    rw [if_neg d2] at h
                    have e2 : decide (59 < (0 : Int)) = false := decide_eq_false d2
                    by_cases d3 : 57599 < (hh : Int) * 3600 + (0 : Int) * 60 + (0 : Int)
                    · rw [if_pos d3] at h
                      have e3 : decide (57599 < hh * 3600) = true := decide_eq_true (by omega)
                      obtain ⟨N1, N2⟩ := Prod.mk.inj (Option.some.inj h)
                      subst N1 N2
                      clear h
                      have X := (computusref03_scan_sign.calls _ s3 b3 58 false s4 false w w3 HI3.out HB3.out Q4.out)
                      with_reducible refine X.mono ?_
                      clear X
                      rintro e w4 ⟨rfl, hi, hb, hk⟩
                      have HI4 := Aside0.mk hi
                      have HB4 := Aside0.mk hb
                      have z40 := s48_z0 hi
                      have z41 := s48_z1 hi
                      have y40 := s48_y0 hi
                      have y41 := s48_y1 hi
                      clear hi hb hk
                      go_wp2_with (fail)
                      go_ret2
                      exact ⟨by first | rfl | simp, HB4.out⟩
                    rw [if_neg d3] at h
                    have e3 : decide (57599 < hh * 3600) = false := decide_eq_false (by omega)
                    rw [if_neg Bool.false_ne_true] at h
                    obtain ⟨N1, N2⟩ := Prod.mk.inj (Option.some.inj h)
                    subst N1 N2
                    clear h
                    have X := (computusref03_scan_sign.calls _ s3 b3 58 false s4 false w w3 HI3.out HB3.out Q4.out)
                    with_reducible refine X.mono ?_
                    clear X
                    rintro e w4 ⟨rfl, hi, hb, hk⟩
                    have HI4 := Aside0.mk hi
                    have HB4 := Aside0.mk hb
                    have z40 := s48_z0 hi
                    have z41 := s48_z1 hi
                    have y40 := s48_y0 hi
                    have y41 := s48_y1 hi
                    clear hi hb hk
                    go_wp2_with (fail)
                    go_ret2
                    exact ⟨by first | rfl | simp, HB4.out⟩
                  · rw [if_neg hg] at h
                    cases h
            | true =>
              have h := H.out
              rw [if_pos rfl] at h
              obtain ⟨⟨mm, s5, b5⟩, q3, h⟩ := Option.bind_eq_some_iff.mp h
              obtain ⟨⟨o4, s6, b6⟩, q4, h⟩ := Option.bind_eq_some_iff.mp h
              simp only at q3 q4 h
              have Q5 := Aside0.mk q3
              have Q6 := Aside0.mk q4
              replace H := Aside0.mk h
              clear q3 q4 h
              have X := (computusref03_scan_sign.calls _ s3 b3 58 true s4 b4 w w3 HI3.out HB3.out Q4.out)
              with_reducible refine X.mono ?_
              clear X
              rintro e w4 ⟨rfl, hi, hb, hk⟩
              have HI4 := Aside0.mk hi
              have HB4 := Aside0.mk hb
              have z40 := s48_z0 hi
              have z41 := s48_z1 hi
              have y40 := s48_y0 hi
              have y41 := s48_y1 hi
              clear hi hb hk
              go_wp2_with (fail)
              have X := (computusref03_scan_num.calls k _ s4 b4 2 2 mm s5 b5 w w4 HI4.out HB4.out Q5.out)
              with_reducible refine X.mono ?_
              clear X
              rintro e w5 ⟨rfl, hi, hb, hk⟩
              have HI5 := Aside0.mk hi
              have HB5 := Aside0.mk hb
              have z50 := s48_z0 hi
              have z51 := s48_z1 hi
              have y50 := s48_y0 hi
              have y51 := s48_y1 hi
              clear hi hb hk
              go_wp2_with (fail)
              cases o4 with
              | false =>
                have h := H.out
                rw [if_neg Bool.false_ne_true] at h
                replace H := Aside0.mk h
                clear h
                have h := H.out
                unfold roEnd at h
                clear H
                cases b6 with
                | true =>
                  rw [if_pos rfl] at h
                  obtain ⟨N1, N2⟩ := Prod.mk.inj (Option.some.inj h)
                  subst N1 N2
                  clear h
                  have X := (computusref03_scan_sign.calls _ s5 b5 58 false s6 true w w5 HI5.out HB5.out Q6.out)
                  with_reducible refine X.mono ?_
                  clear X
                  rintro e w6 ⟨rfl, hi, hb, hk⟩
                  have HI6 := Aside0.mk hi
                  have HB6 := Aside0.mk hb
                  have z60 := s48_z0 hi
                  have z61 := s48_z1 hi
                  have y60 := s48_y0 hi
                  have y61 := s48_y1 hi
                  clear hi hb hk
                  go_wp2_with (fail)
                  go_ret2
                  exact ⟨by first | rfl | simp, HB6.out⟩
                | false =>
                  rw [if_neg Bool.false_ne_true] at h
                  by_cases hz : 0 < s6.size
                  · rw [if_pos hz] at h
                    obtain ⟨N1, N2⟩ := Prod.mk.inj (Option.some.inj h)
                    subst N1 N2
                    have c1 : decide (0 < (s6.size : Int)) = true := decide_eq_true (by omega)
                    have c2 : decide (0 < s6.size) = true := decide_eq_true hz
                    clear h hz
                    have X := (computusref03_scan_sign.calls _ s5 b5 58 false s6 false w w5 HI5.out HB5.out Q6.out)
                    with_reducible refine X.mono ?_
                    clear X
                    rintro e w6 ⟨rfl, hi, hb, hk⟩
                    have HI6 := Aside0.mk hi
                    have HB6 := Aside0.mk hb
                    have z60 := s48_z0 hi
                    have z61 := s48_z1 hi
                    have y60 := s48_y0 hi
                    have y61 := s48_y1 hi
                    clear hi hb hk
                    go_wp2_with (fail)
                    go_ret2
                    exact ⟨by first | rfl | simp, HB6.out⟩
                  · rw [if_neg hz] at h
                    have c1 : decide (0 < (s6.size : Int)) = false := decide_eq_false (by omega)
                    have c2 : decide (0 < s6.size) = false := decide_eq_false hz
                    clear hz
                    by_cases hg : 0 ≤ (hh : Int) ∧ (hh : Int) ≤ 99 ∧ 0 ≤ (mm : Int) ∧ (mm : Int) ≤ 99 ∧ 0 ≤ (0 : Int) ∧ (0 : Int) ≤ 99
                    · rw [if_pos hg] at h
                      obtain ⟨g1, g2, g3, g4, g5, g6⟩ := hg
                      by_cases d1 : 59 < (mm : Int)
                      · rw [if_pos d1] at h
                        have e1 : decide (59 < (mm : Int)) = true := decide_eq_true d1
                        obtain ⟨N1, N2⟩ := Prod.mk.inj (Option.some.inj h)
                        subst N1 N2
                        clear h
                        have X := (computusref03_scan_sign.calls _ s5 b5 58 false s6 false w w5 HI5.out HB5.out Q6.out)
                        with_reducible refine X.mono ?_
                        clear X
                        rintro e w6 ⟨rfl, hi, hb, hk⟩
                        have HI6 := Aside0.mk hi
                        have HB6 := Aside0.mk hb
                        have z60 := s48_z0 hi
                        have z61 := s48_z1 hi
                        have y60 := s48_y0 hi
                        have y61 := s48_y1 hi
                        clear hi hb hk
                        go_wp2_with (fail)
                        go_ret2
                        exact ⟨by first | rfl | simp, HB6.out⟩
                      rw [if_neg d1] at h
                      have e1 : decide (59 < (mm : Int)) = false := decide_eq_false d1
                      by_cases d2 : 59 < (0 : Int)
                      · rw [if_pos d2] at h
                        have e2 : decide (59 < (0 : Int)) = true := decide_eq_true d2
                        exact absurd d2 (by decide)
                      rw [if_neg d2] at h
                      have e2 : decide (59 < (0 : Int)) = false := decide_eq_false d2
                      by_cases d3 : 57599 < (hh : Int) * 3600 + (mm : Int) * 60 + (0 : Int)
                      · rw [if_pos d3] at h
                        have e3 : decide (57599 < hh * 3600 + mm * 60) = true := decide_eq_true (by omega)
                        obtain ⟨N1, N2⟩ := Prod.mk.inj (Option.some.inj h)
                        subst N1 N2
                        clear h
                        have X := (computusref03_scan_sign.calls _ s5 b5 58 false s6 false w w5 HI5.out HB5.out Q6.out)
                        with_reducible refine X.mono ?_
                        clear X
                        rintro e w6 ⟨rfl, hi, hb, hk⟩
                        have HI6 := Aside0.mk hi
                        have HB6 := Aside0.mk hb
                        have z60 := s48_z0 hi
                        have z61 := s48_z1 hi
                        have y60 := s48_y0 hi
                        have y61 := s48_y1 hi
                        clear hi hb hk
                        go_wp2_with (fail)
                        go_ret2
                        exact ⟨by first | rfl | simp, HB6.out⟩
                      rw [if_neg d3] at h
                      have e3 : decide (57599 < hh * 3600 + mm * 60) = false := decide_eq_false (by omega)
                      rw [if_neg Bool.false_ne_true] at h
                      obtain ⟨N1, N2⟩ := Prod.mk.inj (Option.some.inj h)
                      subst N1 N2
                      clear h
                      have X := (computusref03_scan_sign.calls _ s5 b5 58 false s6 false w w5 HI5.out HB5.out Q6.out)
                      with_reducible refine X.mono ?_
                      clear X
                      rintro e w6 ⟨rfl, hi, hb, hk⟩
                      have HI6 := Aside0.mk hi
                      have HB6 := Aside0.mk hb
                      have z60 := s48_z0 hi
                      have z61 := s48_z1 hi
                      have y60 := s48_y0 hi
                      have y61 := s48_y1 hi
                      clear hi hb hk
                      go_wp2_with (fail)
                      go_ret2
                      exact ⟨by first | rfl | simp, HB6.out⟩
                    · rw [if_neg hg] at h
                      cases h
              | true =>
                have h := H.out
                rw [if_pos rfl] at h
                obtain ⟨⟨ss, s7, b7⟩, q5, h⟩ := Option.bind_eq_some_iff.mp h
                simp only at q5 h
                have Q7 := Aside0.mk q5
                replace H := Aside0.mk h
                clear q5 h
                have X := (computusref03_scan_sign.calls _ s5 b5 58 true s6 b6 w w5 HI5.out HB5.out Q6.out)
                with_reducible refine X.mono ?_
                clear X
                rintro e w6 ⟨rfl, hi, hb, hk⟩
                have HI6 := Aside0.mk hi
                have HB6 := Aside0.mk hb
                have z60 := s48_z0 hi
                have z61 := s48_z1 hi
                have y60 := s48_y0 hi
                have y61 := s48_y1 hi
                clear hi hb hk
                go_wp2_with (fail)
                have h := H.out
                unfold roEnd at h
                clear H
                cases b7 with
                | true =>
                  rw [if_pos rfl] at h
                  obtain ⟨N1, N2⟩ := Prod.mk.inj (Option.some.inj h)
                  subst N1 N2
                  clear h
                  have X := (computusref03_scan_num.calls k _ s6 b6 2 2 ss s7 true w w6 HI6.out HB6.out Q7.out)
                  with_reducible refine X.mono ?_
                  clear X
                  rintro e w7 ⟨rfl, hi, hb, hk⟩
                  have HI7 := Aside0.mk hi
                  have HB7 := Aside0.mk hb
                  have z70 := s48_z0 hi
                  have z71 := s48_z1 hi
                  have y70 := s48_y0 hi
                  have y71 := s48_y1 hi
                  clear hi hb hk
                  go_wp2_with (fail)
                  go_ret2
                  exact ⟨by first | rfl | simp, HB7.out⟩
                | false =>
                  rw [if_neg Bool.false_ne_true] at h
                  by_cases hz : 0 < s7.size
                  · rw [if_pos hz] at h
                    obtain ⟨N1, N2⟩ := Prod.mk.inj (Option.some.inj h)
                    subst N1 N2
                    have c1 : decide (0 < (s7.size : Int)) = true := decide_eq_true (by omega)
                    have c2 : decide (0 < s7.size) = true := decide_eq_true hz
                    clear h hz
                    have X := (computusref03_scan_num.calls k _ s6 b6 2 2 ss s7 false w w6 HI6.out HB6.out Q7.out)
                    with_reducible refine X.mono ?_
                    clear X
                    rintro e w7 ⟨rfl, hi, hb, hk⟩
                    have HI7 := Aside0.mk hi
                    have HB7 := Aside0.mk hb
                    have z70 := s48_z0 hi
                    have z71 := s48_z1 hi
                    have y70 := s48_y0 hi
                    have y71 := s48_y1 hi
                    clear hi hb hk
                    go_wp2_with (fail)
                    go_ret2
                    exact ⟨by first | rfl | simp, HB7.out⟩
                  · rw [if_neg hz] at h
                    have c1 : decide (0 < (s7.size : Int)) = false := decide_eq_false (by omega)
                    have c2 : decide (0 < s7.size) = false := decide_eq_false hz
                    clear hz
                    by_cases hg : 0 ≤ (hh : Int) ∧ (hh : Int) ≤ 99 ∧ 0 ≤ (mm : Int) ∧ (mm : Int) ≤ 99 ∧ 0 ≤ (ss : Int) ∧ (ss : Int) ≤ 99
                    · rw [if_pos hg] at h
                      obtain ⟨g1, g2, g3, g4, g5, g6⟩ := hg
                      by_cases d1 : 59 < (mm : Int)
                      · rw [if_pos d1] at h
                        have e1 : decide (59 < (mm : Int)) = true := decide_eq_true d1
                        obtain ⟨N1, N2⟩ := Prod.mk.inj (Option.some.inj h)
                        subst N1 N2
                        clear h
                        have X := (computusref03_scan_num.calls k _ s6 b6 2 2 ss s7 false w w6 HI6.out HB6.out Q7.out)
                        with_reducible refine X.mono ?_
                        clear X
                        rintro e w7 ⟨rfl, hi, hb, hk⟩
                        have HI7 := Aside0.mk hi
                        have HB7 := Aside0.mk hb
                        have z70 := s48_z0 hi
                        have z71 := s48_z1 hi
                        have y70 := s48_y0 hi
                        have y71 := s48_y1 hi
                        clear hi hb hk
                        go_wp2_with (fail)
                        go_ret2
                        exact ⟨by first | rfl | simp, HB7.out⟩
                      rw [if_neg d1] at h
                      have e1 : decide (59 < (mm : Int)) = false := decide_eq_false d1
                      by_cases d2 : 59 < (ss : Int)
                      · rw [if_pos d2] at h
                        have e2 : decide (59 < (ss : Int)) = true := decide_eq_true d2
                        obtain ⟨N1, N2⟩ := Prod.mk.inj (Option.some.inj h)
                        subst N1 N2
                        clear h
                        have X := (computusref03_scan_num.calls k _ s6 b6 2 2 ss s7 false w w6 HI6.out HB6.out Q7.out)
                        with_reducible refine X.mono ?_
                        clear X
                        rintro e w7 ⟨rfl, hi, hb, hk⟩
                        have HI7 := Aside0.mk hi
                        have HB7 := Aside0.mk hb
                        have z70 := s48_z0 hi
                        have z71 := s48_z1 hi
                        have y70 := s48_y0 hi
                        have y71 := s48_y1 hi
                        clear hi hb hk
                        go_wp2_with (fail)
                        go_ret2
                        exact ⟨by first | rfl | simp, HB7.out⟩
                      rw [if_neg d2] at h
                      have e2 : decide (59 < (ss : Int)) = false := decide_eq_false d2
                      by_cases d3 : 57599 < (hh : Int) * 3600 + (mm : Int) * 60 + (ss : Int)
                      · rw [if_pos d3] at h
                        have e3 : decide (57599 < hh * 3600 + mm * 60 + ss) = true := decide_eq_true (by omega)
                        obtain ⟨N1, N2⟩ := Prod.mk.inj (Option.some.inj h)
                        subst N1 N2
                        clear h
                        have X := (computusref03_scan_num.calls k _ s6 b6 2 2 ss s7 false w w6 HI6.out HB6.out Q7.out)
                        with_reducible refine X.mono ?_
                        clear X
                        rintro e w7 ⟨rfl, hi, hb, hk⟩
                        have HI7 := Aside0.mk hi
                        have HB7 := Aside0.mk hb
                        have z70 := s48_z0 hi
                        have z71 := s48_z1 hi
                        have y70 := s48_y0 hi
                        have y71 := s48_y1 hi
                        clear hi hb hk
                        go_wp2_with (fail)
                        go_ret2
                        exact ⟨by first | rfl | simp, HB7.out⟩
                      rw [if_neg d3] at h
                      have e3 : decide (57599 < hh * 3600 + mm * 60 + ss) = false := decide_eq_false (by omega)
                      rw [if_neg Bool.false_ne_true] at h
                      obtain ⟨N1, N2⟩ := Prod.mk.inj (Option.some.inj h)
                      subst N1 N2
                      clear h
                      have X := (computusref03_scan_num.calls k _ s6 b6 2 2 ss s7 false w w6 HI6.out HB6.out Q7.out)
                      with_reducible refine X.mono ?_
                      clear X
                      rintro e w7 ⟨rfl, hi, hb, hk⟩
                      have HI7 := Aside0.mk hi
                      have HB7 := Aside0.mk hb
                      have z70 := s48_z0 hi
                      have z71 := s48_z1 hi
                      have y70 := s48_y0 hi
                      have y71 := s48_y1 hi
                      clear hi hb hk
                      go_wp2_with (fail)
                      go_ret2
                      exact ⟨by first | rfl | simp, HB7.out⟩
                    · rw [if_neg hg] at h
                      cases h
          · have f2 : (bt s2 1 != 58) = true := by simpa using k2
            have k3 : bt s2 2 = 58 := Classical.byContradiction fun g => k4 ⟨k1, k2, g⟩
            have f3 : (bt s2 2 != 58) = false := by simpa using k3
            have q2 : 2 < s2.size := by omega
            have hx2 : ∀ h : 2 < s2.size, ((s2[2]'h).toNat : Int) = bt s2 2 := bt_at s2 2
            have qi2 : (2 < (s2.size : Int)) = True := eq_true (by omega)
            replace q2 := eq_true q2
            clear k1 k2 k3 k4
            have X := (computusref03_scan_sign.calls _ s1 b1 43 true s2 b2 w w1 HI1.out HB1.out Q2.out)
            with_reducible refine X.mono ?_
            clear X
            rintro e w2 ⟨rfl, hi, hb, hk⟩
            have HI2 := Aside0.mk hi
            have HB2 := Aside0.mk hb
            have z20 := s48_z0 hi
            have z21 := s48_z1 hi
            have y20 := s48_y0 hi
            have y21 := s48_y1 hi
            clear hi hb hk
            go_wp2_with (fail)
            have X := (computusref03_scan_num.calls k _ s2 b2 1 2 hh s3 b3 w w2 HI2.out HB2.out Q3.out)
            with_reducible refine X.mono ?_
            clear X
            rintro e w3 ⟨rfl, hi, hb, hk⟩
            have HI3 := Aside0.mk hi
            have HB3 := Aside0.mk hb
            have z30 := s48_z0 hi
            have z31 := s48_z1 hi
            have y30 := s48_y0 hi
            have y31 := s48_y1 hi
            clear hi hb hk
            go_wp2_with (fail)
            cases o2 with
            | false =>
              have h := H.out
              rw [if_neg Bool.false_ne_true] at h
              replace H := Aside0.mk h
              clear h
              have h := H.out
              unfold roEnd at h
              clear H
              cases b4 with
              | true =>
                rw [if_pos rfl] at h
                obtain ⟨N1, N2⟩ := Prod.mk.inj (Option.some.inj h)
                subst N1 N2
                clear h
                have X := (computusref03_scan_sign.calls _ s3 b3 58 false s4 true w w3 HI3.out HB3.out Q4.out)
                with_reducible refine X.mono ?_
                clear X
                rintro e w4 ⟨rfl, hi, hb, hk⟩
                have HI4 := Aside0.mk hi
                have HB4 := Aside0.mk hb
                have z40 := s48_z0 hi
                have z41 := s48_z1 hi
                have y40 := s48_y0 hi
                have y41 := s48_y1 hi
                clear hi hb hk
                go_wp2_with (fail)
                go_ret2
                exact ⟨by first | rfl | simp, HB4.out⟩
              | false =>
                rw [if_neg Bool.false_ne_true] at h
                by_cases hz : 0 < s4.size
                · rw [if_pos hz] at h
                  obtain ⟨N1, N2⟩ := Prod.mk.inj (Option.some.inj h)
                  subst N1 N2
                  have c1 : decide (0 < (s4.size : Int)) = true := decide_eq_true (by omega)
                  have c2 : decide (0 < s4.size) = true := decide_eq_true hz
                  clear h hz
                  have X := (computusref03_scan_sign.calls _ s3 b3 58 false s4 false w w3 HI3.out HB3.out Q4.out)
                  with_reducible refine X.mono ?_
                  clear X
                  rintro e w4 ⟨rfl, hi, hb, hk⟩
                  have HI4 := Aside0.mk hi
                  have HB4 := Aside0.mk hb
                  have z40 := s48_z0 hi
                  have z41 := s48_z1 hi
                  have y40 := s48_y0 hi
                  have y41 := s48_y1 hi
                  clear hi hb hk
                  go_wp2_with (fail)
                  go_ret2
                  exact ⟨by first | rfl | simp, HB4.out⟩
                · rw [if_neg hz] at h
                  have c1 : decide (0 < (s4.size : Int)) = false := decide_eq_false (by omega)
                  have c2 : decide (0 < s4.size) = false := decide_eq_false hz
                  clear hz
                  by_cases hg : 0 ≤ (hh : Int) ∧ (hh : Int) ≤ 99 ∧ 0 ≤ (0 : Int) ∧ (0 : Int) ≤ 99 ∧ 0 ≤ (0 : Int) ∧ (0 : Int) ≤ 99
                  · rw [if_pos hg] at h
                    obtain ⟨g1, g2, g3, g4, g5, g6⟩ := hg
                    by_cases d1 : 59 < (0 : Int)
                    · rw [if_pos d1] at h
                      have e1 : decide (59 < (0 : Int)) = true := decide_eq_true d1
                      exact absurd d1 (by decide)
                    rw [if_neg d1] at h
                    have e1 : decide (59 < (0 : Int)) = false := decide_eq_false d1
                    by_cases d2 : 59 < (0 : Int)
                    · rw [if_pos d2] at h
                      have e2 : decide (59 < (0 : Int)) = true := decide_eq_true d2
                      exact absurd d2 (by decide)
                    rw [if_neg d2] at h
                    have e2 : decide (59 < (0 : Int)) = false := decide_eq_false d2
                    by_cases d3 : 57599 < (hh : Int) * 3600 + (0 : Int) * 60 + (0 : Int)
                    · rw [if_pos d3] at h
                      have e3 : decide (57599 < hh * 3600) = true := decide_eq_true (by omega)
                      obtain ⟨N1, N2⟩ := Prod.mk.inj (Option.some.inj h)
                      subst N1 N2
                      clear h
                      have X := (computusref03_scan_sign.calls _ s3 b3 58 false s4 false w w3 HI3.out HB3.out Q4.out)
                      with_reducible refine X.mono ?_
                      clear X
                      rintro e w4 ⟨rfl, hi, hb, hk⟩
                      have HI4 := Aside0.mk hi
                      have HB4 := Aside0.mk hb
                      have z40 := s48_z0 hi
                      have z41 := s48_z1 hi
                      have y40 := s48_y0 hi
                      have y41 := s48_y1 hi
                      clear hi hb hk
                      go_wp2_with (fail)
                      go_ret2
                      exact ⟨by first | rfl | simp, HB4.out⟩
                    rw [if_neg d3] at h
                    have e3 : decide (57599 < hh * 3600) = false := decide_eq_false (by omega)
                    rw [if_neg Bool.false_ne_true] at h
                    obtain ⟨N1, N2⟩ := Prod.mk.inj (Option.some.inj h)
                    subst N1 N2
                    clear h
                    have X := (computusref03_scan_sign.calls _ s3 b3 58 false s4 false w w3 HI3.out HB3.out Q4.out)
                    with_reducible refine X.mono ?_
                    clear X
                    rintro e w4 ⟨rfl, hi, hb, hk⟩
                    have HI4 := Aside0.mk hi
                    have HB4 := Aside0.mk hb
                    have z40 := s48_z0 hi
                    have z41 := s48_z1 hi
                    have y40 := s48_y0 hi
                    have y41 := s48_y1 hi
                    clear hi hb hk
                    go_wp2_with (fail)
                    go_ret2
                    exact ⟨by first | rfl | simp, HB4.out⟩
                  · rw [if_neg hg] at h
                    cases h
            | true =>
              have h := H.out
              rw [if_pos rfl] at h
              obtain ⟨⟨mm, s5, b5⟩, q3, h⟩ := Option.bind_eq_some_iff.mp h
              obtain ⟨⟨o4, s6, b6⟩, q4, h⟩ := Option.bind_eq_some_iff.mp h
              simp only at q3 q4 h
              have Q5 := Aside0.mk q3
              have Q6 := Aside0.mk q4
              replace H := Aside0.mk h
              clear q3 q4 h
              have X := (computusref03_scan_sign.calls _ s3 b3 58 true s4 b4 w w3 HI3.out HB3.out Q4.out)
              with_reducible refine X.mono ?_
              clear X
              rintro e w4 ⟨rfl, hi, hb, hk⟩
              have HI4 := Aside0.mk hi
              have HB4 := Aside0.mk hb
              have z40 := s48_z0 hi
              have z41 := s48_z1 hi
              have y40 := s48_y0 hi
              have y41 := s48_y1 hi
              clear hi hb hk
              go_wp2_with (fail)
              have X := (computusref03_scan_num.calls k _ s4 b4 2 2 mm s5 b5 w w4 HI4.out HB4.out Q5.out)
              with_reducible refine X.mono ?_
              clear X
              rintro e w5 ⟨rfl, hi, hb, hk⟩
              have HI5 := Aside0.mk hi
              have HB5 := Aside0.mk hb
              have z50 := s48_z0 hi
              have z51 := s48_z1 hi
              have y50 := s48_y0 hi
              have y51 := s48_y1 hi
              clear hi hb hk
              go_wp2_with (fail)
              cases o4 with
              | false =>
                have h := H.out
                rw [if_neg Bool.false_ne_true] at h
                replace H := Aside0.mk h
                clear h
                have h := H.out
                unfold roEnd at h
                clear H
                cases b6 with
                | true =>
                  rw [if_pos rfl] at h
                  obtain ⟨N1, N2⟩ := Prod.mk.inj (Option.some.inj h)
                  subst N1 N2
                  clear h
                  have X := (computusref03_scan_sign.calls _ s5 b5 58 false s6 true w w5 HI5.out HB5.out Q6.out)
                  with_reducible refine X.mono ?_
                  clear X
                  rintro e w6 ⟨rfl, hi, hb, hk⟩
                  have HI6 := Aside0.mk hi
                  have HB6 := Aside0.mk hb
                  have z60 := s48_z0 hi
                  have z61 := s48_z1 hi
                  have y60 := s48_y0 hi
                  have y61 := s48_y1 hi
                  clear hi hb hk
                  go_wp2_with (fail)
                  go_ret2
                  exact ⟨by first | rfl | simp, HB6.out⟩
                | false =>
                  rw [if_neg Bool.false_ne_true] at h
                  by_cases hz : 0 < s6.size
                  · rw [if_pos hz] at h
                    obtain ⟨N1, N2⟩ := Prod.mk.inj (Option.some.inj h)
                    subst N1 N2
                    have c1 : decide (0 < (s6.size : Int)) = true := decide_eq_true (by omega)
                    have c2 : decide (0 < s6.size) = true := decide_eq_true hz
                    clear h hz
                    have X := (computusref03_scan_sign.calls _ s5 b5 58 false s6 false w w5 HI5.out HB5.out Q6.out)
                    with_reducible refine X.mono ?_
                    clear X
                    rintro e w6 ⟨rfl, hi, hb, hk⟩
                    have HI6 := Aside0.mk hi
                    have HB6 := Aside0.mk hb
                    have z60 := s48_z0 hi
                    have z61 := s48_z1 hi
                    have y60 := s48_y0 hi
                    have y61 := s48_y1 hi
                    clear hi hb hk
                    go_wp2_with (fail)
                    go_ret2
                    exact ⟨by first | rfl | simp, HB6.out⟩
                  · rw [if_neg hz] at h
                    have c1 : decide (0 < (s6.size : Int)) = false := decide_eq_false (by omega)
                    have c2 : decide (0 < s6.size) = false := decide_eq_false hz
                    clear hz
                    by_cases hg : 0 ≤ (hh : Int) ∧ (hh : Int) ≤ 99 ∧ 0 ≤ (mm : Int) ∧ (mm : Int) ≤ 99 ∧ 0 ≤ (0 : Int) ∧ (0 : Int) ≤ 99
                    · rw [if_pos hg] at h
                      obtain ⟨g1, g2, g3, g4, g5, g6⟩ := hg
                      by_cases d1 : 59 < (mm : Int)
                      · rw [if_pos d1] at h
                        have e1 : decide (59 < (mm : Int)) = true := decide_eq_true d1
                        obtain ⟨N1, N2⟩ := Prod.mk.inj (Option.some.inj h)
                        subst N1 N2
                        clear h
                        have X := (computusref03_scan_sign.calls _ s5 b5 58 false s6 false w w5 HI5.out HB5.out Q6.out)
                        with_reducible refine X.mono ?_
                        clear X
                        rintro e w6 ⟨rfl, hi, hb, hk⟩
                        have HI6 := Aside0.mk hi
                        have HB6 := Aside0.mk hb
                        have z60 := s48_z0 hi
                        have z61 := s48_z1 hi
                        have y60 := s48_y0 hi
                        have y61 := s48_y1 hi
                        clear hi hb hk
                        go_wp2_with (fail)
                        go_ret2
                        exact ⟨by first | rfl | simp, HB6.out⟩
                      rw [if_neg d1] at h
                      have e1 : decide (59 < (mm : Int)) = false := decide_eq_false d1
                      by_cases d2 : 59 < (0 : Int)
                      · rw [if_pos d2] at h
                        have e2 : decide (59 < (0 : Int)) = true := decide_eq_true d2
                        exact absurd d2 (by decide)
                      rw [if_neg d2] at h
                      have e2 : decide (59 < (0 : Int)) = false := decide_eq_false d2
                      by_cases d3 : 57599 < (hh : Int) * 3600 + (mm : Int) * 60 + (0 : Int)
                      · rw [if_pos d3] at h
                        have e3 : decide (57599 < hh * 3600 + mm * 60) = true := decide_eq_true (by omega)
                        obtain ⟨N1, N2⟩ := Prod.mk.inj (Option.some.inj h)
                        subst N1 N2
                        clear h
                        have X := (computusref03_scan_sign.calls _ s5 b5 58 false s6 false w w5 HI5.out HB5.out Q6.out)
                        with_reducible refine X.mono ?_
                        clear X
                        rintro e w6 ⟨rfl, hi, hb, hk⟩
                        have HI6 := Aside0.mk hi
                        have HB6 := Aside0.mk hb
                        have z60 := s48_z0 hi
                        have z61 := s48_z1 hi
                        have y60 := s48_y0 hi
                        have y61 := s48_y1 hi
                        clear hi hb hk
                        go_wp2_with (fail)
                        go_ret2
                        exact ⟨by first | rfl | simp, HB6.out⟩
                      rw [if_neg d3] at h
                      have e3 : decide (57599 < hh * 3600 + mm * 60) = false := decide_eq_false (by omega)
                      rw [if_neg Bool.false_ne_true] at h
                      obtain ⟨N1, N2⟩ := Prod.mk.inj (Option.some.inj h)
                      subst N1 N2
                      clear h
                      have X := (computusref03_scan_sign.calls _ s5 b5 58 false s6 false w w5 HI5.out HB5.out Q6.out)
                      with_reducible refine X.mono ?_
                      clear X
                      rintro e w6 ⟨rfl, hi, hb, hk⟩
                      have HI6 := Aside0.mk hi
                      have HB6 := Aside0.mk hb
                      have z60 := s48_z0 hi
                      have z61 := s48_z1 hi
                      have y60 := s48_y0 hi
                      have y61 := s48_y1 hi
                      clear hi hb hk
                      go_wp2_with (fail)
                      go_ret2
                      exact ⟨by first | rfl | simp, HB6.out⟩
                    · rw [if_neg hg] at h
                      cases h
              | true =>
                have h := H.out
                rw [if_pos rfl] at h
                obtain ⟨⟨ss, s7, b7⟩, q5, h⟩ := Option.bind_eq_some_iff.mp h
                simp only at q5 h
                have Q7 := Aside0.mk q5
                replace H := Aside0.mk h
                clear q5 h
                have X := (computusref03_scan_sign.calls _ s5 b5 58 true s6 b6 w w5 HI5.out HB5.out Q6.out)
                with_reducible refine X.mono ?_
                clear X
                rintro e w6 ⟨rfl, hi, hb, hk⟩
                have HI6 := Aside0.mk hi
                have HB6 := Aside0.mk hb
                have z60 := s48_z0 hi
                have z61 := s48_z1 hi
                have y60 := s48_y0 hi
                have y61 := s48_y1 hi
                clear hi hb hk
                go_wp2_with (fail)
                have h := H.out
                unfold roEnd at h
                clear H
                cases b7 with
                | true =>
                  rw [if_pos rfl] at h
                  obtain ⟨N1, N2⟩ := Prod.mk.inj (Option.some.inj h)
                  subst N1 N2
                  clear h
                  have X := (computusref03_scan_num.calls k _ s6 b6 2 2 ss s7 true w w6 HI6.out HB6.out Q7.out)
                  with_reducible refine X.mono ?_
                  clear X
                  rintro e w7 ⟨rfl, hi, hb, hk⟩
                  have HI7 := Aside0.mk hi
                  have HB7 := Aside0.mk hb
                  have z70 := s48_z0 hi
                  have z71 := s48_z1 hi
                  have y70 := s48_y0 hi
                  have y71 := s48_y1 hi
                  clear hi hb hk
                  go_wp2_with (fail)
                  go_ret2
                  exact ⟨by first | rfl | simp, HB7.out⟩
                | false =>
                  rw [if_neg Bool.false_ne_true] at h
                  by_cases hz : 0 < s7.size
                  · rw [if_pos hz] at h
                    obtain ⟨N1, N2⟩ := Prod.mk.inj (Option.some.inj h)
                    subst N1 N2
                    have c1 : decide (0 < (s7.size : Int)) = true := decide_eq_true (by omega)
                    have c2 : decide (0 < s7.size) = true := decide_eq_true hz
                    clear h hz
                    have X := (computusref03_scan_num.calls k _ s6 b6 2 2 ss s7 false w w6 HI6.out HB6.out Q7.out)
                    with_reducible refine X.mono ?_
                    clear X
                    rintro e w7 ⟨rfl, hi, hb, hk⟩
                    have HI7 := Aside0.mk hi
                    have HB7 := Aside0.mk hb
                    have z70 := s48_z0 hi
                    have z71 := s48_z1 hi
                    have y70 := s48_y0 hi
                    have y71 := s48_y1 hi
                    clear hi hb hk
                    go_wp2_with (fail)
                    go_ret2
                    exact ⟨by first | rfl | simp, HB7.out⟩
                  · rw [if_neg hz] at h
                    have c1 : decide (0 < (s7.size : Int)) = false := decide_eq_false (by omega)
                    have c2 : decide (0 < s7.size) = false := decide_eq_false hz
                    clear hz
                    by_cases hg : 0 ≤ (hh : Int) ∧ (hh : Int) ≤ 99 ∧ 0 ≤ (mm : Int) ∧ (mm : Int) ≤ 99 ∧ 0 ≤ (ss : Int) ∧ (ss : Int) ≤ 99
                    · rw [if_pos hg] at h
                      obtain ⟨g1, g2, g3, g4, g5, g6⟩ := hg
                      by_cases d1 : 59 < (mm : Int)
                      · rw [if_pos d1] at h
                        have e1 : decide (59 < (mm : Int)) = true := decide_eq_true d1
                        obtain ⟨N1, N2⟩ := Prod.mk.inj (Option.some.inj h)
                        subst N1 N2
                        clear h
                        have X := (computusref03_scan_num.calls k _ s6 b6 2 2 ss s7 false w w6 HI6.out HB6.out Q7.out)
                        with_reducible refine X.mono ?_
                        clear X
                        rintro e w7 ⟨rfl, hi, hb, hk⟩
                        have HI7 := Aside0.mk hi
                        have HB7 := Aside0.mk hb
                        have z70 := s48_z0 hi
                        have z71 := s48_z1 hi
                        have y70 := s48_y0 hi
                        have y71 := s48_y1 hi
                        clear hi hb hk
                        go_wp2_with (fail)
                        go_ret2
                        exact ⟨by first | rfl | simp, HB7.out⟩
                      rw [if_neg d1] at h
                      have e1 : decide (59 < (mm : Int)) = false := decide_eq_false d1
                      by_cases d2 : 59 < (ss : Int)
                      · rw [if_pos d2] at h
                        have e2 : decide (59 < (ss : Int)) = true := decide_eq_true d2
                        obtain ⟨N1, N2⟩ := Prod.mk.inj (Option.some.inj h)
                        subst N1 N2
                        clear h
                        have X := (computusref03_scan_num.calls k _ s6 b6 2 2 ss s7 false w w6 HI6.out HB6.out Q7.out)
                        with_reducible refine X.mono ?_
                        clear X
                        rintro e w7 ⟨rfl, hi, hb, hk⟩
                        have HI7 := Aside0.mk hi
                        have HB7 := Aside0.mk hb
                        have z70 := s48_z0 hi
                        have z71 := s48_z1 hi
                        have y70 := s48_y0 hi
                        have y71 := s48_y1 hi
                        clear hi hb hk
                        go_wp2_with (fail)
                        go_ret2
                        exact ⟨by first | rfl | simp, HB7.out⟩
                      rw [if_neg d2] at h
                      have e2 : decide (59 < (ss : Int)) = false := decide_eq_false d2
                      by_cases d3 : 57599 < (hh : Int) * 3600 + (mm : Int) * 60 + (ss : Int)
                      · rw [if_pos d3] at h
                        have e3 : decide (57599 < hh * 3600 + mm * 60 + ss) = true := decide_eq_true (by omega)
                        obtain ⟨N1, N2⟩ := Prod.mk.inj (Option.some.inj h)
                        subst N1 N2
                        clear h
                        have X := (computusref03_scan_num.calls k _ s6 b6 2 2 ss s7 false w w6 HI6.out HB6.out Q7.out)
                        with_reducible refine X.mono ?_
                        clear X
                        rintro e w7 ⟨rfl, hi, hb, hk⟩
                        have HI7 := Aside0.mk hi
                        have HB7 := Aside0.mk hb
                        have z70 := s48_z0 hi
                        have z71 := s48_z1 hi
                        have y70 := s48_y0 hi
                        have y71 := s48_y1 hi
                        clear hi hb hk
                        go_wp2_with (fail)
                        go_ret2
                        exact ⟨by first | rfl | simp, HB7.out⟩
                      rw [if_neg d3] at h
                      have e3 : decide (57599 < hh * 3600 + mm * 60 + ss) = false := decide_eq_false (by omega)
                      rw [if_neg Bool.false_ne_true] at h
                      obtain ⟨N1, N2⟩ := Prod.mk.inj (Option.some.inj h)
                      subst N1 N2
                      clear h
                      have X := (computusref03_scan_num.calls k _ s6 b6 2 2 ss s7 false w w6 HI6.out HB6.out Q7.out)
                      with_reducible refine X.mono ?_
                      clear X
                      rintro e w7 ⟨rfl, hi, hb, hk⟩
                      have HI7 := Aside0.mk hi
                      have HB7 := Aside0.mk hb
                      have z70 := s48_z0 hi
                      have z71 := s48_z1 hi
                      have y70 := s48_y0 hi
                      have y71 := s48_y1 hi
                      clear hi hb hk
                      go_wp2_with (fail)
                      go_ret2
                      exact ⟨by first | rfl | simp, HB7.out⟩
                    · rw [if_neg hg] at h
                      cases h
        · have f1 : ((s2.size : Int) == 4) = false := by simp; omega
          clear k1 k4
          have X := (computusref03_scan_sign.calls _ s1 b1 43 true s2 b2 w w1 HI1.out HB1.out Q2.out)
          with_reducible refine X.mono ?_
          clear X
          rintro e w2 ⟨rfl, hi, hb, hk⟩
          have HI2 := Aside0.mk hi
          have HB2 := Aside0.mk hb
          have z20 := s48_z0 hi
          have z21 := s48_z1 hi
          have y20 := s48_y0 hi
          have y21 := s48_y1 hi
          clear hi hb hk
          go_wp2_with (fail)
          have X := (computusref03_scan_num.calls k _ s2 b2 1 2 hh s3 b3 w w2 HI2.out HB2.out Q3.out)
          with_reducible refine X.mono ?_
          clear X
          rintro e w3 ⟨rfl, hi, hb, hk⟩
          have HI3 := Aside0.mk hi
          have HB3 := Aside0.mk hb
          have z30 := s48_z0 hi
          have z31 := s48_z1 hi
          have y30 := s48_y0 hi
          have y31 := s48_y1 hi
          clear hi hb hk
          go_wp2_with (fail)
          cases o2 with
          | false =>
            have h := H.out
            rw [if_neg Bool.false_ne_true] at h
            replace H := Aside0.mk h
            clear h
            have h := H.out
            unfold roEnd at h
            clear H
            cases b4 with
            | true =>
              rw [if_pos rfl] at h
              obtain ⟨N1, N2⟩ := Prod.mk.inj (Option.some.inj h)
              subst N1 N2
              clear h
              have X := (computusref03_scan_sign.calls _ s3 b3 58 false s4 true w w3 HI3.out HB3.out Q4.out)
              with_reducible refine X.mono ?_
              clear X
              rintro e w4 ⟨rfl, hi, hb, hk⟩
              have HI4 := Aside0.mk hi
              have HB4 := Aside0.mk hb
              have z40 := s48_z0 hi
              have z41 := s48_z1 hi
              have y40 := s48_y0 hi
              have y41 := s48_y1 hi
              clear hi hb hk
              go_wp2_with (fail)
              go_ret2
              exact ⟨by first | rfl | simp, HB4.out⟩
            | false =>
              rw [if_neg Bool.false_ne_true] at h
              by_cases hz : 0 < s4.size
              · rw [if_pos hz] at h
                obtain ⟨N1, N2⟩ := Prod.mk.inj (Option.some.inj h)
                subst N1 N2
                have c1 : decide (0 < (s4.size : Int)) = true := decide_eq_true (by omega)
                have c2 : decide (0 < s4.size) = true := decide_eq_true hz
                clear h hz
                have X := (computusref03_scan_sign.calls _ s3 b3 58 false s4 false w w3 HI3.out HB3.out Q4.out)
                with_reducible refine X.mono ?_
                clear X
                rintro e w4 ⟨rfl, hi, hb, hk⟩
                have HI4 := Aside0.mk hi
                have HB4 := Aside0.mk hb
                have z40 := s48_z0 hi
                have z41 := s48_z1 hi
                have y40 := s48_y0 hi
                have y41 := s48_y1 hi
                clear hi hb hk
                go_wp2_with (fail)
                go_ret2
                exact ⟨by first | rfl | simp, HB4.out⟩
              · rw [if_neg hz] at h
                have c1 : decide (0 < (s4.size : Int)) = false := decide_eq_false (by omega)
                have c2 : decide (0 < s4.size) = false := decide_eq_false hz
                clear hz
                by_cases hg : 0 ≤ (hh : Int) ∧ (hh : Int) ≤ 99 ∧ 0 ≤ (0 : Int) ∧ (0 : Int) ≤ 99 ∧ 0 ≤ (0 : Int) ∧ (0 : Int) ≤ 99
                · rw [if_pos hg] at h
                  obtain ⟨g1, g2, g3, g4, g5, g6⟩ := hg
                  by_cases d1 : 59 < (0 : Int)
                  · rw [if_pos d1] at h
                    have e1 : decide (59 < (0 : Int)) = true := decide_eq_true d1
                    exact absurd d1 (by decide)
                  rw [if_neg d1] at h
                  have e1 : decide (59 < (0 : Int)) = false := decide_eq_false d1
                  by_cases d2 : 59 < (0 : Int)
                  · rw [if_pos d2] at h
                    have e2 : decide (59 < (0 : Int)) = true := decide_eq_true d2
                    exact absurd d2 (by decide)
                  rw [if_neg d2] at h
                  have e2 : decide (59 < (0 : Int)) = false := decide_eq_false d2
                  by_cases d3 : 57599 < (hh : Int) * 3600 + (0 : Int) * 60 + (0 : Int)
                  · rw [if_pos d3] at h
                    have e3 : decide (57599 < hh * 3600) = true := decide_eq_true (by omega)
                    obtain ⟨N1, N2⟩ := Prod.mk.inj (Option.some.inj h)
                    subst N1 N2
                    clear h
                    have X := (computusref03_scan_sign.calls _ s3 b3 58 false s4 false w w3 HI3.out HB3.out Q4.out)
                    with_reducible refine X.mono ?_
                    clear X
                    rintro e w4 ⟨rfl, hi, hb, hk⟩
                    have HI4 := Aside0.mk hi
                    have HB4 := Aside0.mk hb
                    have z40 := s48_z0 hi
                    have z41 := s48_z1 hi
                    have y40 := s48_y0 hi
                    have y41 := s48_y1 hi
                    clear hi hb hk
                    go_wp2_with (fail)
                    go_ret2
                    exact ⟨by first | rfl | simp, HB4.out⟩
                  rw [if_neg d3] at h
                  have e3 : decide (57599 < hh * 3600) = false := decide_eq_false (by omega)
                  rw [if_neg Bool.false_ne_true] at h
                  obtain ⟨N1, N2⟩ := Prod.mk.inj (Option.some.inj h)
                  subst N1 N2
                  clear h
                  have X := (computusref03_scan_sign.calls _ s3 b3 58 false s4 false w w3 HI3.out HB3.out Q4.out)
                  with_reducible refine X.mono ?_
                  clear X
                  rintro e w4 ⟨rfl, hi, hb, hk⟩
                  have HI4 := Aside0.mk hi
                  have HB4 := Aside0.mk hb
                  have z40 := s48_z0 hi
                  have z41 := s48_z1 hi
                  have y40 := s48_y0 hi
                  have y41 := s48_y1 hi
                  clear hi hb hk
                  go_wp2_with (fail)
                  go_ret2
                  exact ⟨by first | rfl | simp, HB4.out⟩
                · rw [if_neg hg] at h
                  cases h
          | true =>
            have h := H.out
            rw [if_pos rfl] at h
            obtain ⟨⟨mm, s5, b5⟩, q3, h⟩ := Option.bind_eq_some_iff.mp h
            obtain ⟨⟨o4, s6, b6⟩, q4, h⟩ := Option.bind_eq_some_iff.mp h
            simp only at q3 q4 h
            have Q5 := Aside0.mk q3
            have Q6 := Aside0.mk q4
            replace H := Aside0.mk h
            clear q3 q4 h
            have X := (computusref03_scan_sign.calls _ s3 b3 58 true s4 b4 w w3 HI3.out HB3.out Q4.out)
            with_reducible refine X.mono ?_
            clear X
            rintro e w4 ⟨rfl, hi, hb, hk⟩
            have HI4 := Aside0.mk hi
            have HB4 := Aside0.mk hb
            have z40 := s48_z0 hi
            have z41 := s48_z1 hi
            have y40 := s48_y0 hi
            have y41 := s48_y1 hi
            clear hi hb hk
            go_wp2_with (fail)
            have X := (computusref03_scan_num.calls k _ s4 b4 2 2 mm s5 b5 w w4 HI4.out HB4.out Q5.out)
            with_reducible refine X.mono ?_
            clear X
            rintro e w5 ⟨rfl, hi, hb, hk⟩
            have HI5 := Aside0.mk hi
            have HB5 := Aside0.mk hb
            have z50 := s48_z0 hi
            have z51 := s48_z1 hi
            have y50 := s48_y0 hi
            have y51 := s48_y1 hi
            clear hi hb hk
            go_wp2_with (fail)
            cases o4 with
            | false =>
              have h := H.out
              rw [if_neg Bool.false_ne_true] at h
              replace H := Aside0.mk h
              clear h
              have h := H.out
              unfold roEnd at h
              clear H
              cases b6 with
              | true =>
                rw [if_pos rfl] at h
                obtain ⟨N1, N2⟩ := Prod.mk.inj (Option.some.inj h)
                subst N1 N2
                clear h
                have X := (computusref03_scan_sign.calls _ s5 b5 58 false s6 true w w5 HI5.out HB5.out Q6.out)
                with_reducible refine X.mono ?_
                clear X
                rintro e w6 ⟨rfl, hi, hb, hk⟩
                have HI6 := Aside0.mk hi
                have HB6 := Aside0.mk hb
                have z60 := s48_z0 hi
                have z61 := s48_z1 hi
                have y60 := s48_y0 hi
                have y61 := s48_y1 hi
                clear hi hb hk
                go_wp2_with (fail)
                go_ret2
                exact ⟨by first | rfl | simp, HB6.out⟩
              | false =>
                rw [if_neg Bool.false_ne_true] at h
                by_cases hz : 0 < s6.size
                · rw [if_pos hz] at h
                  obtain ⟨N1, N2⟩ := Prod.mk.inj (Option.some.inj h)
                  subst N1 N2
                  have c1 : decide (0 < (s6.size : Int)) = true := decide_eq_true (by omega)
                  have c2 : decide (0 < s6.size) = true := decide_eq_true hz
                  clear h hz
                  have X := (computusref03_scan_sign.calls _ s5 b5 58 false s6 false w w5 HI5.out HB5.out Q6.out)
                  with_reducible refine X.mono ?_
                  clear X
                  rintro e w6 ⟨rfl, hi, hb, hk⟩
                  have HI6 := Aside0.mk hi
                  have HB6 := Aside0.mk hb
                  have z60 := s48_z0 hi
                  have z61 := s48_z1 hi
                  have y60 := s48_y0 hi
                  have y61 := s48_y1 hi
                  clear hi hb hk
                  go_wp2_with (fail)
                  go_ret2
                  exact ⟨by first | rfl | simp, HB6.out⟩
                · rw [if_neg hz] at h
                  have c1 : decide (0 < (s6.size : Int)) = false := decide_eq_false (by omega)
                  have c2 : decide (0 < s6.size) = false := decide_eq_false hz
                  clear hz
                  by_cases hg : 0 ≤ (hh : Int) ∧ (hh : Int) ≤ 99 ∧ 0 ≤ (mm : Int) ∧ (mm : Int) ≤ 99 ∧ 0 ≤ (0 : Int) ∧ (0 : Int) ≤ 99
                  · rw [if_pos hg] at h
                    obtain ⟨g1, g2, g3, g4, g5, g6⟩ := hg
                    by_cases d1 : 59 < (mm : Int)
                    · rw [if_pos d1] at h
                      have e1 : decide (59 < (mm : Int)) = true := decide_eq_true d1
                      obtain ⟨N1, N2⟩ := Prod.mk.inj (Option.some.inj h)
                      subst N1 N2
                      clear h
                      have X := (computusref03_scan_sign.calls _ s5 b5 58 false s6 false w w5 HI5.out HB5.out Q6.out)
                      with_reducible refine X.mono ?_
                      clear X
                      rintro e w6 ⟨rfl, hi, hb, hk⟩
                      have HI6 := Aside0.mk hi
                      have HB6 := Aside0.mk hb
                      have z60 := s48_z0 hi
                      have z61 := s48_z1 hi
                      have y60 := s48_y0 hi
                      have y61 := s48_y1 hi
                      clear hi hb hk
                      go_wp2_with (fail)
                      go_ret2
                      exact ⟨by first | rfl | simp, HB6.out⟩
                    rw [if_neg d1] at h
                    have e1 : decide (59 < (mm : Int)) = false := decide_eq_false d1
                    by_cases d2 : 59 < (0 : Int)
                    · rw [if_pos d2] at h
                      have e2 : decide (59 < (0 : Int)) = true := decide_eq_true d2
                      exact absurd d2 (by decide)
                    rw [if_neg d2] at h
                    have e2 : decide (59 < (0 : Int)) = false := decide_eq_false d2
                    by_cases d3 : 57599 < (hh : Int) * 3600 + (mm : Int) * 60 + (0 : Int)
                    · rw [if_pos d3] at h
                      have e3 : decide (57599 < hh * 3600 + mm * 60) = true := decide_eq_true (by omega)
                      obtain ⟨N1, N2⟩ := Prod.mk.inj (Option.some.inj h)
                      subst N1 N2
                      clear h
                      have X := (computusref03_scan_sign.calls _ s5 b5 58 false s6 false w w5 HI5.out HB5.out Q6.out)
                      with_reducible refine X.mono ?_
                      clear X
                      rintro e w6 ⟨rfl, hi, hb, hk⟩
                      have HI6 := Aside0.mk hi
                      have HB6 := Aside0.mk hb
                      have z60 := s48_z0 hi
                      have z61 := s48_z1 hi
                      have y60 := s48_y0 hi
                      have y61 := s48_y1 hi
                      clear hi hb hk
                      go_wp2_with (fail)
                      go_ret2
                      exact ⟨by first | rfl | simp, HB6.out⟩
                    rw [if_neg d3] at h
                    have e3 : decide (57599 < hh * 3600 + mm * 60) = false := decide_eq_false (by omega)
                    rw [if_neg Bool.false_ne_true] at h
                    obtain ⟨N1, N2⟩ := Prod.mk.inj (Option.some.inj h)
                    subst N1 N2
                    clear h
                    have X := (computusref03_scan_sign.calls _ s5 b5 58 false s6 false w w5 HI5.out HB5.out Q6.out)
                    with_reducible refine X.mono ?_
                    clear X
                    rintro e w6 ⟨rfl, hi, hb, hk⟩
                    have HI6 := Aside0.mk hi
                    have HB6 := Aside0.mk hb
                    have z60 := s48_z0 hi
                    have z61 := s48_z1 hi
                    have y60 := s48_y0 hi
                    have y61 := s48_y1 hi
                    clear hi hb hk
                    go_wp2_with (fail)
                    go_ret2
                    exact ⟨by first | rfl | simp, HB6.out⟩
                  · rw [if_neg hg] at h
                    cases h
            | true =>
              have h := H.out
              rw [if_pos rfl] at h
              obtain ⟨⟨ss, s7, b7⟩, q5, h⟩ := Option.bind_eq_some_iff.mp h
              simp only at q5 h
              have Q7 := Aside0.mk q5
              replace H := Aside0.mk h
              clear q5 h
              have X := (computusref03_scan_sign.calls _ s5 b5 58 true s6 b6 w w5 HI5.out HB5.out Q6.out)
              with_reducible refine X.mono ?_
              clear X
              rintro e w6 ⟨rfl, hi, hb, hk⟩
              have HI6 := Aside0.mk hi
              have HB6 := Aside0.mk hb
              have z60 := s48_z0 hi
              have z61 := s48_z1 hi
              have y60 := s48_y0 hi
              have y61 := s48_y1 hi
              clear hi hb hk
              go_wp2_with (fail)
              have h := H.out
              unfold roEnd at h
              clear H
              cases b7 with
              | true =>
                rw [if_pos rfl] at h
                obtain ⟨N1, N2⟩ := Prod.mk.inj (Option.some.inj h)
                subst N1 N2
                clear h
                have X := (computusref03_scan_num.calls k _ s6 b6 2 2 ss s7 true w w6 HI6.out HB6.out Q7.out)
                with_reducible refine X.mono ?_
                clear X
                rintro e w7 ⟨rfl, hi, hb, hk⟩
                have HI7 := Aside0.mk hi
                have HB7 := Aside0.mk hb
                have z70 := s48_z0 hi
                have z71 := s48_z1 hi
                have y70 := s48_y0 hi
                have y71 := s48_y1 hi
                clear hi hb hk
                go_wp2_with (fail)
                go_ret2
                exact ⟨by first | rfl | simp, HB7.out⟩
              | false =>
                rw [if_neg Bool.false_ne_true] at h
                by_cases hz : 0 < s7.size
                · rw [if_pos hz] at h
                  obtain ⟨N1, N2⟩ := Prod.mk.inj (Option.some.inj h)
                  subst N1 N2
                  have c1 : decide (0 < (s7.size : Int)) = true := decide_eq_true (by omega)
                  have c2 : decide (0 < s7.size) = true := decide_eq_true hz
                  clear h hz
                  have X := (computusref03_scan_num.calls k _ s6 b6 2 2 ss s7 false w w6 HI6.out HB6.out Q7.out)
                  with_reducible refine X.mono ?_
                  clear X
                  rintro e w7 ⟨rfl, hi, hb, hk⟩
                  have HI7 := Aside0.mk hi
                  have HB7 := Aside0.mk hb
                  have z70 := s48_z0 hi
                  have z71 := s48_z1 hi
                  have y70 := s48_y0 hi
                  have y71 := s48_y1 hi
                  clear hi hb hk
                  go_wp2_with (fail)
                  go_ret2
                  exact ⟨by first | rfl | simp, HB7.out⟩
                · rw [if_neg hz] at h
                  have c1 : decide (0 < (s7.size : Int)) = false := decide_eq_false (by omega)
                  have c2 : decide (0 < s7.size) = false := decide_eq_false hz
                  clear hz
                  by_cases hg : 0 ≤ (hh : Int) ∧ (hh : Int) ≤ 99 ∧ 0 ≤ (mm : Int) ∧ (mm : Int) ≤ 99 ∧ 0 ≤ (ss : Int) ∧ (ss : Int) ≤ 99
                  · rw [if_pos hg] at h
                    obtain ⟨g1, g2, g3, g4, g5, g6⟩ := hg
                    by_cases d1 : 59 < (mm : Int)
                    · rw [if_pos d1] at h
                      have e1 : decide (59 < (mm : Int)) = true := decide_eq_true d1
                      obtain ⟨N1, N2⟩ := Prod.mk.inj (Option.some.inj h)
                      subst N1 N2
                      clear h
                      have X := (computusref03_scan_num.calls k _ s6 b6 2 2 ss s7 false w w6 HI6.out HB6.out Q7.out)
                      with_reducible refine X.mono ?_
                      clear X
                      rintro e w7 ⟨rfl, hi, hb, hk⟩
                      have HI7 := Aside0.mk hi
                      have HB7 := Aside0.mk hb
                      have z70 := s48_z0 hi
                      have z71 := s48_z1 hi
                      have y70 := s48_y0 hi
                      have y71 := s48_y1 hi
                      clear hi hb hk
                      go_wp2_with (fail)
                      go_ret2
                      exact ⟨by first | rfl | simp, HB7.out⟩
                    rw [if_neg d1] at h
                    have e1 : decide (59 < (mm : Int)) = false := decide_eq_false d1
                    by_cases d2 : 59 < (ss : Int)
                    · rw [if_pos d2] at h
                      have e2 : decide (59 < (ss : Int)) = true := decide_eq_true d2
                      obtain ⟨N1, N2⟩ := Prod.mk.inj (Option.some.inj h)
                      subst N1 N2
                      clear h
                      have X := (computusref03_scan_num.calls k _ s6 b6 2 2 ss s7 false w w6 HI6.out HB6.out Q7.out)
                      with_reducible refine X.mono ?_
                      clear X
                      rintro e w7 ⟨rfl, hi, hb, hk⟩
                      have HI7 := Aside0.mk hi
                      have HB7 := Aside0.mk hb
                      have z70 := s48_z0 hi
                      have z71 := s48_z1 hi
                      have y70 := s48_y0 hi
                      have y71 := s48_y1 hi
                      clear hi hb hk
                      go_wp2_with (fail)
                      go_ret2
                      exact ⟨by first | rfl | simp, HB7.out⟩
                    rw [if_neg d2] at h
                    have e2 : decide (59 < (ss : Int)) = false := decide_eq_false d2
                    by_cases d3 : 57599 < (hh : Int) * 3600 + (mm : Int) * 60 + (ss : Int)
                    · rw [if_pos d3] at h
                      have e3 : decide (57599 < hh * 3600 + mm * 60 + ss) = true := decide_eq_true (by omega)
                      obtain ⟨N1, N2⟩ := Prod.mk.inj (Option.some.inj h)
                      subst N1 N2
                      clear h
                      have X := (computusref03_scan_num.calls k _ s6 b6 2 2 ss s7 false w w6 HI6.out HB6.out Q7.out)
                      with_reducible refine X.mono ?_
                      clear X
                      rintro e w7 ⟨rfl, hi, hb, hk⟩
                      have HI7 := Aside0.mk hi
                      have HB7 := Aside0.mk hb
                      have z70 := s48_z0 hi
                      have z71 := s48_z1 hi
                      have y70 := s48_y0 hi
                      have y71 := s48_y1 hi
                      clear hi hb hk
                      go_wp2_with (fail)
                      go_ret2
                      exact ⟨by first | rfl | simp, HB7.out⟩
                    rw [if_neg d3] at h
                    have e3 : decide (57599 < hh * 3600 + mm * 60 + ss) = false := decide_eq_false (by omega)
                    rw [if_neg Bool.false_ne_true] at h
                    obtain ⟨N1, N2⟩ := Prod.mk.inj (Option.some.inj h)
                    subst N1 N2
                    clear h
                    have X := (computusref03_scan_num.calls k _ s6 b6 2 2 ss s7 false w w6 HI6.out HB6.out Q7.out)
                    with_reducible refine X.mono ?_
                    clear X
                    rintro e w7 ⟨rfl, hi, hb, hk⟩
                    have HI7 := Aside0.mk hi
                    have HB7 := Aside0.mk hb
                    have z70 := s48_z0 hi
                    have z71 := s48_z1 hi
                    have y70 := s48_y0 hi
                    have y71 := s48_y1 hi
                    clear hi hb hk
                    go_wp2_with (fail)
                    go_ret2
                    exact ⟨by first | rfl | simp, HB7.out⟩
                  · rw [if_neg hg] at h
                    cases h


end Go.Proofs.Ytecijnjnhdjokaa.PClockF
