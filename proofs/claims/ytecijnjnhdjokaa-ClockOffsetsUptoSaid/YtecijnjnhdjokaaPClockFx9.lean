-- Written by a program of this session (mkprint.py, over the kit's print), out of the translation and of the contracts that the session gives.
import Derived.Test.YtecijnjnhdjokaaPClockFx0
import Derived.Test.YtecijnjnhdjokaaPClockFx4
import Derived.Test.YtecijnjnhdjokaaPClockFx5
import Derived.Test.YtecijnjnhdjokaaPClockFx6
import Derived.Test.YtecijnjnhdjokaaPClockFx8
namespace Go.Proofs.Ytecijnjnhdjokaa.PClockF
open Go.RowKit Go.Proofs.YtecijnjnhdjokaaW.PrintWords Go.Proofs.YtecijnjnhdjokaaW.PrintLast Go.Proofs.YtecijnjnhdjokaaW.PrintMore
attribute [local go_sem] max2_int min2_int max_two min_two max_three min_three max_four min_four   -- for this text's walks alone
set_option linter.unusedVariables false
set_option linter.unusedSimpArgs false

/-! ### computuslaw03_ClockOffsets: function 8 -/
def computuslaw03_ClockOffsets.j0 : Nat → Int → ByteArray → Int → Bool → Option (Bool)
  | 0, _, _, _, _ => none
  | k + 1, x0, x7, x8, x52 => if x52 = true then (some false) else (if x8 = 0 then ((clock_ReadOffset.f x7).bind fun bt199 => (if bt199.1 = x0 then (if bt199.2 = 0 then ((computuslaw03_known.f k).bind fun t201 => (some t201)) else (some false)) else (some false))) else ((computuslaw03_known.f k).bind fun t202 => (some t202)))
def computuslaw03_ClockOffsets.f (k : Nat) (a0 : Int) (a1 : ByteArray) : Option (Bool) := (clock_Offset.f k a0).bind fun bt191 => ((computusref03_Offset.f k a0).bind fun bt193 => ((clock_ReadOffset.f a1).bind fun bt195 => ((computusref03_ReadOffset.f k a1).bind fun bt197 => (if bt191.1.toList = bt193.1.toList then (if bt191.2 = bt193.2 then (if bt195.1 = bt197.1 then (computuslaw03_ClockOffsets.j0 k a0 bt193.1 bt193.2 (bt195.2 != bt197.2)) else (computuslaw03_ClockOffsets.j0 k a0 bt193.1 bt193.2 true)) else (computuslaw03_ClockOffsets.j0 k a0 bt193.1 bt193.2 true)) else (computuslaw03_ClockOffsets.j0 k a0 bt193.1 bt193.2 true)))))
theorem computuslaw03_ClockOffsets.mono_l : ∀ k, (∀ y0 y1 y2 y3, LeO (computuslaw03_ClockOffsets.j0 k y0 y1 y2 y3) (computuslaw03_ClockOffsets.j0 (k + 1) y0 y1 y2 y3))
  | 0 => fun _ _ _ _ r h => by simp [computuslaw03_ClockOffsets.j0] at h
  | k + 1 => by
    have ih0 := computuslaw03_ClockOffsets.mono_l k
    · intro y0 y1 y2 y3
      unfold computuslaw03_ClockOffsets.j0
      repeat' first
      | (with_reducible exact ih0 _ _ _ _)
      | (with_reducible exact clock_Offset.mono _ _)
      | (with_reducible exact computuslaw03_known.mono _)
      | (with_reducible exact computusref03_Offset.mono _ _)
      | (with_reducible exact computusref03_ReadOffset.mono _ _)
      | (with_reducible exact LeO.refl _)
      | (with_reducible exact LeO.none _)
      | (with_reducible refine LeO.ite ?_ ?_)
      | (with_reducible refine LeO.bind ?_ (fun _ => ?_))
      | exact ih0 _ _ _ _
      | exact clock_Offset.mono _ _
      | exact computuslaw03_known.mono _
      | exact computusref03_Offset.mono _ _
      | exact computusref03_ReadOffset.mono _ _
      | exact LeO.none _
      | refine LeO.ite ?_ ?_
      | refine LeO.bind ?_ (fun _ => ?_)
theorem computuslaw03_ClockOffsets.mono : ∀ a0 a1 k, LeO (computuslaw03_ClockOffsets.f k a0 a1) (computuslaw03_ClockOffsets.f (k + 1) a0 a1) := by
  intro a0 a1 k
  have ih0 := computuslaw03_ClockOffsets.mono_l k
  unfold computuslaw03_ClockOffsets.f
  repeat' first
      | (with_reducible exact ih0 _ _ _ _)
      | (with_reducible exact clock_Offset.mono _ _)
      | (with_reducible exact computuslaw03_known.mono _)
      | (with_reducible exact computusref03_Offset.mono _ _)
      | (with_reducible exact computusref03_ReadOffset.mono _ _)
      | (with_reducible exact LeO.refl _)
      | (with_reducible exact LeO.none _)
      | (with_reducible refine LeO.ite ?_ ?_)
      | (with_reducible refine LeO.bind ?_ (fun _ => ?_))
      | exact ih0 _ _ _ _
      | exact clock_Offset.mono _ _
      | exact computuslaw03_known.mono _
      | exact computusref03_Offset.mono _ _
      | exact computusref03_ReadOffset.mono _ _
      | exact LeO.none _
      | refine LeO.ite ?_ ?_
      | refine LeO.bind ?_ (fun _ => ?_)
set_option maxHeartbeats 8000000 in
set_option maxRecDepth 100000 in
theorem computuslaw03_ClockOffsets.calls (k : Nat) (a0 : Int) (a1 : ByteArray) (r : Bool) (w : World) (h : computuslaw03_ClockOffsets.f k a0 a1 = some r) :
    Calls Try.prog 8 #[.int .i64 a0, .string a1] w fun e w' => e = .returned (.bool r) ∧ Below w.heap.size w w' := by
  have HB := Aside0.mk (Below.refl w.heap.size w)
  have H : ((clock_Offset.f k a0).bind fun bt191 => ((computusref03_Offset.f k a0).bind fun bt193 => ((clock_ReadOffset.f a1).bind fun bt195 => ((computusref03_ReadOffset.f k a1).bind fun bt197 => (if bt191.1.toList = bt193.1.toList then (if bt191.2 = bt193.2 then (if bt195.1 = bt197.1 then (computuslaw03_ClockOffsets.j0 k a0 bt193.1 bt193.2 (bt195.2 != bt197.2)) else (computuslaw03_ClockOffsets.j0 k a0 bt193.1 bt193.2 true)) else (computuslaw03_ClockOffsets.j0 k a0 bt193.1 bt193.2 true)) else (computuslaw03_ClockOffsets.j0 k a0 bt193.1 bt193.2 true)))))) = some r := h
  clear h
  replace H := Option.bind_eq_some_iff.mp H
  obtain ⟨⟨t191, t192⟩, A30, H⟩ := H
  replace H : ((computusref03_Offset.f k a0).bind fun bt193 => ((clock_ReadOffset.f a1).bind fun bt195 => ((computusref03_ReadOffset.f k a1).bind fun bt197 => (if t191.toList = bt193.1.toList then (if t192 = bt193.2 then (if bt195.1 = bt197.1 then (computuslaw03_ClockOffsets.j0 k a0 bt193.1 bt193.2 (bt195.2 != bt197.2)) else (computuslaw03_ClockOffsets.j0 k a0 bt193.1 bt193.2 true)) else (computuslaw03_ClockOffsets.j0 k a0 bt193.1 bt193.2 true)) else (computuslaw03_ClockOffsets.j0 k a0 bt193.1 bt193.2 true))))) = some r := H
  have A3 := Aside0.mk A30
  clear A30
  replace H := Option.bind_eq_some_iff.mp H
  obtain ⟨⟨t193, t194⟩, A40, H⟩ := H
  replace H : ((clock_ReadOffset.f a1).bind fun bt195 => ((computusref03_ReadOffset.f k a1).bind fun bt197 => (if t191.toList = t193.toList then (if t192 = t194 then (if bt195.1 = bt197.1 then (computuslaw03_ClockOffsets.j0 k a0 t193 t194 (bt195.2 != bt197.2)) else (computuslaw03_ClockOffsets.j0 k a0 t193 t194 true)) else (computuslaw03_ClockOffsets.j0 k a0 t193 t194 true)) else (computuslaw03_ClockOffsets.j0 k a0 t193 t194 true)))) = some r := H
  have A4 := Aside0.mk A40
  clear A40
  replace H := Option.bind_eq_some_iff.mp H
  obtain ⟨⟨t195, t196⟩, A50, H⟩ := H
  replace H : ((computusref03_ReadOffset.f k a1).bind fun bt197 => (if t191.toList = t193.toList then (if t192 = t194 then (if t195 = bt197.1 then (computuslaw03_ClockOffsets.j0 k a0 t193 t194 (t196 != bt197.2)) else (computuslaw03_ClockOffsets.j0 k a0 t193 t194 true)) else (computuslaw03_ClockOffsets.j0 k a0 t193 t194 true)) else (computuslaw03_ClockOffsets.j0 k a0 t193 t194 true))) = some r := H
  have A5 := Aside0.mk A50
  clear A50
  replace H := Option.bind_eq_some_iff.mp H
  obtain ⟨⟨t197, t198⟩, A60, H⟩ := H
  replace H : (if t191.toList = t193.toList then (if t192 = t194 then (if t195 = t197 then (computuslaw03_ClockOffsets.j0 k a0 t193 t194 (t196 != t198)) else (computuslaw03_ClockOffsets.j0 k a0 t193 t194 true)) else (computuslaw03_ClockOffsets.j0 k a0 t193 t194 true)) else (computuslaw03_ClockOffsets.j0 k a0 t193 t194 true)) = some r := H
  have A6 := Aside0.mk A60
  clear A60
  have HC7 := Aside0.mk H
  clear H
  go_enter Try.func8, Try.ntmps8
  go_upto_region 5 with (first | ((with_reducible refine gate_callee (f := 24) rfl ?_); refine goesL_ (some 17) rfl rfl Try.func24 (by kernel_rfl) rfl #[.int .i64 a0] rfl (by (try simp only [List.map_toArray, List.map_cons, List.map_nil]); first | done | rfl | (simp only [List.length_drop, List.length_take]; rfl)) ?_; (with_reducible refine (clock_Offset.calls k a0 t191 t192 _ A3.out).mono ?_); rintro e w8 ⟨rfl, hb⟩; refine ⟨_, rfl, ?_⟩; have n0_ := Aside0.mk (below_step (by repeat (first | (with_reducible first | exact HB.out | apply below_alloc | apply pw_below_drewN | apply below_drew1) | exact HB.out)) hb); clear HB; have HB := n0_; clear n0_; (try clear hb); (try clear hb2); (try clear hk); (try clear hi)) | ((with_reducible refine gate_callee (f := 25) rfl ?_); refine goesL_ (some 22) rfl rfl Try.func25 (by kernel_rfl) rfl #[.int .i64 a0] rfl (by (try simp only [List.map_toArray, List.map_cons, List.map_nil]); first | done | rfl | (simp only [List.length_drop, List.length_take]; rfl)) ?_; (with_reducible refine (computusref03_Offset.calls k a0 t193 t194 _ A4.out).mono ?_); rintro e w9 ⟨rfl, hb⟩; refine ⟨_, rfl, ?_⟩; have n0_ := Aside0.mk (below_step (by repeat (first | (with_reducible first | exact HB.out | apply below_alloc | apply pw_below_drewN | apply below_drew1) | exact HB.out)) hb); clear HB; have HB := n0_; clear n0_; (try clear hb); (try clear hb2); (try clear hk); (try clear hi)) | ((with_reducible refine gate_callee (f := 26) rfl ?_); refine goesL_ (some 27) rfl rfl Try.func26 (by kernel_rfl) rfl #[.string a1] rfl (by (try simp only [List.map_toArray, List.map_cons, List.map_nil]); first | done | rfl | (simp only [List.length_drop, List.length_take]; rfl)) ?_; (with_reducible refine (clock_ReadOffset.calls a1 t195 t196 _ A5.out).mono ?_); rintro e w10 ⟨rfl, hb⟩; refine ⟨_, rfl, ?_⟩; have n0_ := Aside0.mk (below_step (by repeat (first | (with_reducible first | exact HB.out | apply below_alloc | apply pw_below_drewN | apply below_drew1) | exact HB.out)) hb); clear HB; have HB := n0_; clear n0_; (try clear hb); (try clear hb2); (try clear hk); (try clear hi)) | ((with_reducible refine gate_callee (f := 27) rfl ?_); refine goesL_ (some 32) rfl rfl Try.func27 (by kernel_rfl) rfl #[.string a1] rfl (by (try simp only [List.map_toArray, List.map_cons, List.map_nil]); first | done | rfl | (simp only [List.length_drop, List.length_take]; rfl)) ?_; (with_reducible refine (computusref03_ReadOffset.calls k a1 t197 t198 _ A6.out).mono ?_); rintro e w11 ⟨rfl, hb⟩; refine ⟨_, rfl, ?_⟩; have n0_ := Aside0.mk (below_step (by repeat (first | (with_reducible first | exact HB.out | apply below_alloc | apply pw_below_drewN | apply below_drew1) | exact HB.out)) hb); clear HB; have HB := n0_; clear n0_; (try clear hb); (try clear hb2); (try clear hk); (try clear hi)))
  (try simp only [Act.put, List.setIfInBounds_toArray, List.set_cons_zero, List.set_cons_succ])
  go_cut [52] (fun v52 wc => ∃ (kq : Nat) (x52_6 : Bool), v52 = .bool x52_6 ∧ Aside0 (computuslaw03_ClockOffsets.j0 kq a0 t193 t194 x52_6 = some r) ∧ Aside0 (kq ≤ k) ∧ Aside0 (Below w.heap.size w wc))
  case first =>
    have H := HC7.out
    clear HC7
    by_cases c12 : t191.toList = t193.toList
    · rw [if_pos c12] at H
      have c12b0 : (t191.toList == t193.toList) = true := beq_iff_eq.mpr c12
      have c12b1 : (t191.toList != t193.toList) = false := bne_eq_false_iff_eq.mpr c12
      clear c12
      (first | rw [c12b0] | (simp only [i64_w, i32_w]; rw [c12b0]) | skip)
      by_cases c13 : t192 = t194
      · rw [if_pos c13] at H
        have c13b0 : (t192 == t194) = true := beq_iff_eq.mpr c13
        have c13b1 : (t192 != t194) = false := bne_eq_false_iff_eq.mpr c13
        clear c13
        by_cases c14 : t195 = t197
        · rw [if_pos c14] at H
          have c14b0 : (t195 == t197) = true := beq_iff_eq.mpr c14
          have c14b1 : (t195 != t197) = false := bne_eq_false_iff_eq.mpr c14
          clear c14
          have H' := Aside0.mk H
          clear H
          go_wp2
          go_meet
          case rel => exact ⟨_, ((t196 != t198)), (by first | rfl | (simp; done) | (simp [*]; done)), H', ⟨by first | omega | exact Nat.le_refl _⟩, ⟨by repeat (first | (with_reducible first | exact HB.out | apply below_alloc | apply pw_below_drewN | apply below_drew1) | exact HB.out)⟩⟩
        · rw [if_neg c14] at H
          have c14b0 : (t195 == t197) = false := beq_eq_false_iff_ne.mpr c14
          have c14b1 : (t195 != t197) = true := bne_iff_ne.mpr c14
          have H' := Aside0.mk H
          clear H
          go_wp2
          go_meet
          case rel => exact ⟨_, (true), (by first | rfl | (simp; done) | (simp [*]; done)), H', ⟨by first | omega | exact Nat.le_refl _⟩, ⟨by repeat (first | (with_reducible first | exact HB.out | apply below_alloc | apply pw_below_drewN | apply below_drew1) | exact HB.out)⟩⟩
      · rw [if_neg c13] at H
        have c13b0 : (t192 == t194) = false := beq_eq_false_iff_ne.mpr c13
        have c13b1 : (t192 != t194) = true := bne_iff_ne.mpr c13
        have H' := Aside0.mk H
        clear H
        go_wp2
        go_meet
        case rel => exact ⟨_, (true), (by first | rfl | (simp; done) | (simp [*]; done)), H', ⟨by first | omega | exact Nat.le_refl _⟩, ⟨by repeat (first | (with_reducible first | exact HB.out | apply below_alloc | apply pw_below_drewN | apply below_drew1) | exact HB.out)⟩⟩
    · rw [if_neg c12] at H
      have c12b0 : (t191.toList == t193.toList) = false := beq_eq_false_iff_ne.mpr c12
      have c12b1 : (t191.toList != t193.toList) = true := bne_iff_ne.mpr c12
      (first | rw [c12b0] | (simp only [i64_w, i32_w]; rw [c12b0]) | skip)
      have H' := Aside0.mk H
      clear H
      go_wp2
      go_meet
      case rel => exact ⟨_, (true), (by first | rfl | (simp; done) | (simp [*]; done)), H', ⟨by first | omega | exact Nat.le_refl _⟩, ⟨by repeat (first | (with_reducible first | exact HB.out | apply below_alloc | apply pw_below_drewN | apply below_drew1) | exact HB.out)⟩⟩
  case rest =>
    clear HC7
    try clear c1
    try clear c2
    try clear p2
    try clear c8
    try clear c12
    try clear c12b0
    try clear c12b1
    try clear c13
    try clear c13b0
    try clear c13b1
    try clear c14
    try clear c14b0
    try clear c14b1
    obtain ⟨kq, x52_6, rfl, HA, HJ6, HB⟩ := hcut
    cases kq with
    | zero => exact absurd HA.out (by simp [computuslaw03_ClockOffsets.j0])
    | succ kj6 =>
      have H := HA.out
      clear HA
      simp only [computuslaw03_ClockOffsets.j0] at H
      by_cases c15 : x52_6 = true
      · subst c15
        have H1 : (some false) = some r := by rw [if_pos rfl] at H; exact H
        clear H
        have H := H1
        clear H1
        obtain rfl := Option.some.inj H
        go_wp2
        go_ret
        exact ⟨by first | rfl | (simp [errW_none, errW_some] <;> rfl) | (simp [*, errW_none, errW_some] <;> rfl), by repeat (first | (with_reducible first | exact HB.out | apply below_alloc | apply pw_below_drewN | apply below_drew1) | exact HB.out)⟩
      · replace c15 := Bool.eq_false_iff.mpr c15
        subst c15
        have H1 : (if t194 = 0 then ((clock_ReadOffset.f t193).bind fun bt199 => (if bt199.1 = a0 then (if bt199.2 = 0 then ((computuslaw03_known.f kj6).bind fun t201 => (some t201)) else (some false)) else (some false))) else ((computuslaw03_known.f kj6).bind fun t202 => (some t202))) = some r := by rw [if_neg (show ¬ (false = true) by decide)] at H; exact H
        clear H
        have H := H1
        clear H1
        by_cases c16 : t194 = 0
        · rw [if_pos c16] at H
          have c16b0 : (t194 == 0) = true := beq_iff_eq.mpr c16
          have c16b1 : (t194 != 0) = false := bne_eq_false_iff_eq.mpr c16
          clear c16
          replace H := Option.bind_eq_some_iff.mp H
          obtain ⟨⟨t199, t200⟩, A170, H⟩ := H
          replace H : (if t199 = a0 then (if t200 = 0 then ((computuslaw03_known.f kj6).bind fun t201 => (some t201)) else (some false)) else (some false)) = some r := H
          have A17 := Aside0.mk A170
          clear A170
          by_cases c18 : t199 = a0
          · rw [if_pos c18] at H
            have c18b0 : (t199 == a0) = true := beq_iff_eq.mpr c18
            have c18b1 : (t199 != a0) = false := bne_eq_false_iff_eq.mpr c18
            clear c18
            by_cases c19 : t200 = 0
            · rw [if_pos c19] at H
              have c19b0 : (t200 == 0) = true := beq_iff_eq.mpr c19
              have c19b1 : (t200 != 0) = false := bne_eq_false_iff_eq.mpr c19
              clear c19
              replace H := Option.bind_eq_some_iff.mp H
              obtain ⟨t201, A200, H⟩ := H
              replace H : (some t201) = some r := H
              have A20 := Aside0.mk A200
              clear A200
              obtain rfl := Option.some.inj H
              go_wp2_with (first | ((with_reducible refine gate_callee (f := 26) rfl ?_); refine goesL_ (some 58) rfl rfl Try.func26 (by kernel_rfl) rfl #[.string t193] rfl (by (try simp only [List.map_toArray, List.map_cons, List.map_nil]); first | done | rfl | (simp only [List.length_drop, List.length_take]; rfl)) ?_; (with_reducible refine (clock_ReadOffset.calls t193 t199 t200 _ A17.out).mono ?_); rintro e w21 ⟨rfl, hb⟩; refine ⟨_, rfl, ?_⟩; have n0_ := Aside0.mk (below_step (by repeat (first | (with_reducible first | exact HB.out | apply below_alloc | apply pw_below_drewN | apply below_drew1) | exact HB.out)) hb); clear HB; have HB := n0_; clear n0_; (try clear hb); (try clear hb2); (try clear hk); (try clear hi)) | (go_at_call 17; (with_reducible refine (computuslaw03_known.calls kj6  t201 _ A20.out).mono ?_); rintro e w22 ⟨rfl, hb⟩; have n0_ := Aside0.mk (below_step (by repeat (first | (with_reducible first | exact HB.out | apply below_alloc | apply pw_below_drewN | apply below_drew1) | exact HB.out)) hb); clear HB; have HB := n0_; clear n0_; (try clear hb); (try clear hb2); (try clear hk); (try clear hi)))
              go_ret
              exact ⟨by first | rfl | (simp [errW_none, errW_some] <;> rfl) | (simp [*, errW_none, errW_some] <;> rfl), by repeat (first | (with_reducible first | exact HB.out | apply below_alloc | apply pw_below_drewN | apply below_drew1) | exact HB.out)⟩
            · rw [if_neg c19] at H
              have c19b0 : (t200 == 0) = false := beq_eq_false_iff_ne.mpr c19
              have c19b1 : (t200 != 0) = true := bne_iff_ne.mpr c19
              obtain rfl := Option.some.inj H
              go_wp2_with (first | ((with_reducible refine gate_callee (f := 26) rfl ?_); refine goesL_ (some 58) rfl rfl Try.func26 (by kernel_rfl) rfl #[.string t193] rfl (by (try simp only [List.map_toArray, List.map_cons, List.map_nil]); first | done | rfl | (simp only [List.length_drop, List.length_take]; rfl)) ?_; (with_reducible refine (clock_ReadOffset.calls t193 t199 t200 _ A17.out).mono ?_); rintro e w23 ⟨rfl, hb⟩; refine ⟨_, rfl, ?_⟩; have n0_ := Aside0.mk (below_step (by repeat (first | (with_reducible first | exact HB.out | apply below_alloc | apply pw_below_drewN | apply below_drew1) | exact HB.out)) hb); clear HB; have HB := n0_; clear n0_; (try clear hb); (try clear hb2); (try clear hk); (try clear hi)))
              go_ret
              exact ⟨by first | rfl | (simp [errW_none, errW_some] <;> rfl) | (simp [*, errW_none, errW_some] <;> rfl), by repeat (first | (with_reducible first | exact HB.out | apply below_alloc | apply pw_below_drewN | apply below_drew1) | exact HB.out)⟩
          · rw [if_neg c18] at H
            have c18b0 : (t199 == a0) = false := beq_eq_false_iff_ne.mpr c18
            have c18b1 : (t199 != a0) = true := bne_iff_ne.mpr c18
            obtain rfl := Option.some.inj H
            go_wp2_with (first | ((with_reducible refine gate_callee (f := 26) rfl ?_); refine goesL_ (some 58) rfl rfl Try.func26 (by kernel_rfl) rfl #[.string t193] rfl (by (try simp only [List.map_toArray, List.map_cons, List.map_nil]); first | done | rfl | (simp only [List.length_drop, List.length_take]; rfl)) ?_; (with_reducible refine (clock_ReadOffset.calls t193 t199 t200 _ A17.out).mono ?_); rintro e w24 ⟨rfl, hb⟩; refine ⟨_, rfl, ?_⟩; have n0_ := Aside0.mk (below_step (by repeat (first | (with_reducible first | exact HB.out | apply below_alloc | apply pw_below_drewN | apply below_drew1) | exact HB.out)) hb); clear HB; have HB := n0_; clear n0_; (try clear hb); (try clear hb2); (try clear hk); (try clear hi)))
            go_ret
            exact ⟨by first | rfl | (simp [errW_none, errW_some] <;> rfl) | (simp [*, errW_none, errW_some] <;> rfl), by repeat (first | (with_reducible first | exact HB.out | apply below_alloc | apply pw_below_drewN | apply below_drew1) | exact HB.out)⟩
        · rw [if_neg c16] at H
          have c16b0 : (t194 == 0) = false := beq_eq_false_iff_ne.mpr c16
          have c16b1 : (t194 != 0) = true := bne_iff_ne.mpr c16
          replace H := Option.bind_eq_some_iff.mp H
          obtain ⟨t202, A250, H⟩ := H
          replace H : (some t202) = some r := H
          have A25 := Aside0.mk A250
          clear A250
          obtain rfl := Option.some.inj H
          go_wp2_with (first | ((with_reducible refine gate_callee (f := 17) rfl ?_); refine goesL_ (some 55) rfl rfl Try.func17 (by kernel_rfl) rfl #[] rfl (by (try simp only [List.map_toArray, List.map_cons, List.map_nil]); first | done | rfl | (simp only [List.length_drop, List.length_take]; rfl)) ?_; (with_reducible refine (computuslaw03_known.calls kj6  t202 _ A25.out).mono ?_); rintro e w26 ⟨rfl, hb⟩; refine ⟨_, rfl, ?_⟩; have n0_ := Aside0.mk (below_step (by repeat (first | (with_reducible first | exact HB.out | apply below_alloc | apply pw_below_drewN | apply below_drew1) | exact HB.out)) hb); clear HB; have HB := n0_; clear n0_; (try clear hb); (try clear hb2); (try clear hk); (try clear hi)))
          go_ret
          exact ⟨by first | rfl | (simp [errW_none, errW_some] <;> rfl) | (simp [*, errW_none, errW_some] <;> rfl), by repeat (first | (with_reducible first | exact HB.out | apply below_alloc | apply pw_below_drewN | apply below_drew1) | exact HB.out)⟩

/-- THE ONE PURE STATEMENT of computuslaw03_ClockOffsets: yours. -/
def computuslaw03_ClockOffsets.Pure : Prop := ∀ (a0 : Int) (a1 : ByteArray), (Lit.int .i64 a0).wf = true → a1.size ≤ 1048574 → ∃ k, computuslaw03_ClockOffsets.f k a0 a1 = some true
theorem computuslaw03_ClockOffsets.walk (P : computuslaw03_ClockOffsets.Pure) (a0 : Int) (a1 : ByteArray) (w : World) (w0 : (Lit.int .i64 a0).wf = true) (w1 : a1.size ≤ 1048574) :
    Calls Try.prog 8 #[.int .i64 a0, .string a1] w fun e w' => e = .returned (.bool true) ∧ Below w.heap.size w w' := by
  obtain ⟨k, h⟩ := P a0 a1 w0 w1
  refine (computuslaw03_ClockOffsets.calls k a0 a1 true w h).mono ?_
  rintro e w' ⟨rfl, hd⟩
  exact ⟨rfl, hd⟩

end Go.Proofs.Ytecijnjnhdjokaa.PClockF
