-- Written by a program of this session (mkprint.py, over the kit's print), out of the translation and of the contracts that the session gives.
import Derived.Test.YtecijnjnhdjokaaPClockx0
import Derived.Test.YtecijnjnhdjokaaPClockx3
namespace Go.Proofs.Ytecijnjnhdjokaa.PClock
open Go.RowKit Go.Proofs.YtecijnjnhdjokaaW.PrintWords Go.Proofs.YtecijnjnhdjokaaW.PrintLast Go.Proofs.YtecijnjnhdjokaaW.PrintMore
attribute [local go_sem] max2_int min2_int max_two min_two max_three min_three max_four min_four   -- for this text's walks alone
set_option linter.unusedVariables false
set_option linter.unusedSimpArgs false

/-! ### clock_Read: function 18 -/
mutual
def clock_Read.j0 : Nat → List (S45) → ByteArray → Bool → Option (Int × Int)
  | 0, _, _, _ => none
  | k + 1, x4, x5, x42 => if x42 = true then (some (0, 13)) else ((some (([(⟨0, 2⟩ : S45), (⟨0, 6⟩ : S45)] : List (S45)) : List (S45))).bind fun y173 => (if x4.length + y173.length < 8796093022208 then ((some (x4 ++ y173 : List (S45))).bind fun y176 => (if 2 < (y176.length : Int) then (if 3 < (y176.length : Int) then (if x5.toList = ([58] : List UInt8) then (clock_Read.j1 k y176 0 2 0 6) else (if x5.toList = ([58, 58] : List UInt8) then (clock_Read.j1 k y176 ((rd_T45 y176 2).f0) ((rd_T45 y176 2).f1) 0 6) else (clock_Read.j1 k y176 ((rd_T45 y176 2).f0) ((rd_T45 y176 2).f1) ((rd_T45 y176 3).f0) ((rd_T45 y176 3).f1)))) else (none)) else (none))) else (none)))
def clock_Read.j1 : Nat → List (S45) → Int → Int → Int → Int → Option (Int × Int)
  | 0, _, _, _, _, _ => none
  | k + 1, x4, x182000, x182001, x183000, x183001 => (clock_group_two.f x182000 x182001).bind fun t183 => (if t183 = true then (clock_Read.j2 k x4 (x183001 == 0) x182000 x182001 x183000 x183001) else (clock_Read.j2 k x4 true x182000 x182001 x183000 x183001))
def clock_Read.j2 : Nat → List (S45) → Bool → Int → Int → Int → Int → Option (Int × Int)
  | 0, _, _, _, _, _, _ => none
  | k + 1, x4, x69, x182000, x182001, x183000, x183001 => if x69 = true then (some (0, 13)) else (clock_Read.l0 k x4 x182000 x182001 x183000 x183001)
def clock_Read.l0 : Nat → List (S45) → Int → Int → Int → Int → Option (Int × Int)
  | 0, _, _, _, _, _ => none
  | k + 1, x4, x182000, x182001, x183000, x183001 => if x183001 < 6 then (clock_Read.l0 k x4 x182000 x182001 (wrap64 (x183000 * 10)) (wrap64 (x183001 + 1))) else (if 0 < (x4.length : Int) then (if 1 < (x4.length : Int) then ((clock_Make.f k ((rd_T45 x4 0).f0) ((rd_T45 x4 1).f0) x182000 x183000).bind fun bt186 => (some (bt186.1, bt186.2))) else (none)) else (none))
end
def clock_Read.f (k : Nat) (a0 : ByteArray) : Option (Int × Int) := (clock_groups.f a0).bind fun bt156 => (if bt156.2.2 = true then (if bt156.2.1.toList = ([58] : List UInt8) then (if 0 < (bt156.1.length : Int) then ((clock_group_one.f ((rd_T45 bt156.1 0).f0) ((rd_T45 bt156.1 0).f1)).bind fun t162 => (if t162 = true then (if 1 < (bt156.1.length : Int) then ((clock_group_two.f ((rd_T45 bt156.1 1).f0) ((rd_T45 bt156.1 1).f1)).bind fun t164 => (clock_Read.j0 k bt156.1 bt156.2.1 (!t164))) else (none)) else (clock_Read.j0 k bt156.1 bt156.2.1 true))) else (none)) else (if bt156.2.1.toList = ([58, 58] : List UInt8) then (if 0 < (bt156.1.length : Int) then ((clock_group_one.f ((rd_T45 bt156.1 0).f0) ((rd_T45 bt156.1 0).f1)).bind fun t166 => (if t166 = true then (if 1 < (bt156.1.length : Int) then ((clock_group_two.f ((rd_T45 bt156.1 1).f0) ((rd_T45 bt156.1 1).f1)).bind fun t168 => (clock_Read.j0 k bt156.1 bt156.2.1 (!t168))) else (none)) else (clock_Read.j0 k bt156.1 bt156.2.1 true))) else (none)) else (if bt156.2.1.toList = ([58, 58, 46] : List UInt8) then (if 0 < (bt156.1.length : Int) then ((clock_group_one.f ((rd_T45 bt156.1 0).f0) ((rd_T45 bt156.1 0).f1)).bind fun t170 => (if t170 = true then (if 1 < (bt156.1.length : Int) then ((clock_group_two.f ((rd_T45 bt156.1 1).f0) ((rd_T45 bt156.1 1).f1)).bind fun t172 => (clock_Read.j0 k bt156.1 bt156.2.1 (!t172))) else (none)) else (clock_Read.j0 k bt156.1 bt156.2.1 true))) else (none)) else (clock_Read.j0 k bt156.1 bt156.2.1 true)))) else (clock_Read.j0 k bt156.1 bt156.2.1 true))
theorem clock_Read.mono_l : ∀ k, (∀ y0 y1 y2, LeO (clock_Read.j0 k y0 y1 y2) (clock_Read.j0 (k + 1) y0 y1 y2)) ∧ (∀ y0 y1 y2 y3 y4, LeO (clock_Read.j1 k y0 y1 y2 y3 y4) (clock_Read.j1 (k + 1) y0 y1 y2 y3 y4)) ∧ (∀ y0 y1 y2 y3 y4 y5, LeO (clock_Read.j2 k y0 y1 y2 y3 y4 y5) (clock_Read.j2 (k + 1) y0 y1 y2 y3 y4 y5)) ∧ (∀ y0 y1 y2 y3 y4, LeO (clock_Read.l0 k y0 y1 y2 y3 y4) (clock_Read.l0 (k + 1) y0 y1 y2 y3 y4))
  | 0 => ⟨fun _ _ _ r h => by simp [clock_Read.j0] at h, fun _ _ _ _ _ r h => by simp [clock_Read.j1] at h, fun _ _ _ _ _ _ r h => by simp [clock_Read.j2] at h, fun _ _ _ _ _ r h => by simp [clock_Read.l0] at h⟩
  | k + 1 => by
    obtain ⟨ih0, ih1, ih2, ih3⟩ := clock_Read.mono_l k
    refine ⟨?_, ?_, ?_, ?_⟩
    · intro y0 y1 y2
      unfold clock_Read.j0
      repeat' first
      | (with_reducible exact ih0 _ _ _)
      | (with_reducible exact ih1 _ _ _ _ _)
      | (with_reducible exact ih2 _ _ _ _ _ _)
      | (with_reducible exact ih3 _ _ _ _ _)
      | (with_reducible exact clock_Make.mono _ _ _ _ _)
      | (with_reducible exact LeO.refl _)
      | (with_reducible exact LeO.none _)
      | (with_reducible refine LeO.ite ?_ ?_)
      | (with_reducible refine LeO.bind ?_ (fun _ => ?_))
      | exact ih0 _ _ _
      | exact ih1 _ _ _ _ _
      | exact ih2 _ _ _ _ _ _
      | exact ih3 _ _ _ _ _
      | exact clock_Make.mono _ _ _ _ _
      | exact LeO.none _
      | refine LeO.ite ?_ ?_
      | refine LeO.bind ?_ (fun _ => ?_)
    · intro y0 y1 y2 y3 y4
      unfold clock_Read.j1
      repeat' first
      | (with_reducible exact ih0 _ _ _)
      | (with_reducible exact ih1 _ _ _ _ _)
      | (with_reducible exact ih2 _ _ _ _ _ _)
      | (with_reducible exact ih3 _ _ _ _ _)
      | (with_reducible exact clock_Make.mono _ _ _ _ _)
      | (with_reducible exact LeO.refl _)
      | (with_reducible exact LeO.none _)
      | (with_reducible refine LeO.ite ?_ ?_)
      | (with_reducible refine LeO.bind ?_ (fun _ => ?_))
      | exact ih0 _ _ _
      | exact ih1 _ _ _ _ _
      | exact ih2 _ _ _ _ _ _
      | exact ih3 _ _ _ _ _
      | exact clock_Make.mono _ _ _ _ _
      | exact LeO.none _
      | refine LeO.ite ?_ ?_
      | refine LeO.bind ?_ (fun _ => ?_)
    · intro y0 y1 y2 y3 y4 y5
      unfold clock_Read.j2
      repeat' first
      | (with_reducible exact ih0 _ _ _)
      | (with_reducible exact ih1 _ _ _ _ _)
      | (with_reducible exact ih2 _ _ _ _ _ _)
      | (with_reducible exact ih3 _ _ _ _ _)
      | (with_reducible exact clock_Make.mono _ _ _ _ _)
      | (with_reducible exact LeO.refl _)
      | (with_reducible exact LeO.none _)
      | (with_reducible refine LeO.ite ?_ ?_)
      | (with_reducible refine LeO.bind ?_ (fun _ => ?_))
      | exact ih0 _ _ _
      | exact ih1 _ _ _ _ _
      | exact ih2 _ _ _ _ _ _
      | exact ih3 _ _ _ _ _
      | exact clock_Make.mono _ _ _ _ _
      | exact LeO.none _
      | refine LeO.ite ?_ ?_
      | refine LeO.bind ?_ (fun _ => ?_)
    · intro y0 y1 y2 y3 y4
      unfold clock_Read.l0
      repeat' first
      | (with_reducible exact ih0 _ _ _)
      | (with_reducible exact ih1 _ _ _ _ _)
      | (with_reducible exact ih2 _ _ _ _ _ _)
      | (with_reducible exact ih3 _ _ _ _ _)
      | (with_reducible exact clock_Make.mono _ _ _ _ _)
      | (with_reducible exact LeO.refl _)
      | (with_reducible exact LeO.none _)
      | (with_reducible refine LeO.ite ?_ ?_)
      | (with_reducible refine LeO.bind ?_ (fun _ => ?_))
      | exact ih0 _ _ _
      | exact ih1 _ _ _ _ _
      | exact ih2 _ _ _ _ _ _
      | exact ih3 _ _ _ _ _
      | exact clock_Make.mono _ _ _ _ _
      | exact LeO.none _
      | refine LeO.ite ?_ ?_
      | refine LeO.bind ?_ (fun _ => ?_)
theorem clock_Read.mono : ∀ a0 k, LeO (clock_Read.f k a0) (clock_Read.f (k + 1) a0) := by
  intro a0 k
  obtain ⟨ih0, ih1, ih2, ih3⟩ := clock_Read.mono_l k
  unfold clock_Read.f
  repeat' first
      | (with_reducible exact ih0 _ _ _)
      | (with_reducible exact ih1 _ _ _ _ _)
      | (with_reducible exact ih2 _ _ _ _ _ _)
      | (with_reducible exact ih3 _ _ _ _ _)
      | (with_reducible exact clock_Make.mono _ _ _ _ _)
      | (with_reducible exact LeO.refl _)
      | (with_reducible exact LeO.none _)
      | (with_reducible refine LeO.ite ?_ ?_)
      | (with_reducible refine LeO.bind ?_ (fun _ => ?_))
      | exact ih0 _ _ _
      | exact ih1 _ _ _ _ _
      | exact ih2 _ _ _ _ _ _
      | exact ih3 _ _ _ _ _
      | exact clock_Make.mono _ _ _ _ _
      | exact LeO.none _
      | refine LeO.ite ?_ ?_
      | refine LeO.bind ?_ (fun _ => ?_)
def clock_Read.T5 : Bool × List (List Nat × List Nat) := (true, [([], []), ([0], [0]), ([1], [1]), ([], []), ([3], [3]), ([4], [4]), ([], []), ([], []), ([6, 2, 0, 1, 2, 6, 7], [2, 6]), ([7, 5, 8, 0, 1, 2, 3, 4, 5, 6, 7, 8], [5, 7])])
def clock_Read.B5 : List Nat := [0, 1, 3, 0, 8, 24, 0, 0, 199, 511]
theorem clock_Read.tab5 : rtab .any (opsOf Try.f18 5) = clock_Read.T5 := by kernel_rfl
theorem clock_Read.bits5 : waitsOk clock_Read.T5.2 clock_Read.B5 = true := by kernel_rfl
def clock_Read.T16 : Bool × List (List Nat × List Nat) := (true, [([], []), ([0], [0]), ([1], [1]), ([2], [2]), ([], []), ([4], [4]), ([5], [5]), ([6], [6]), ([], []), ([8], [8]), ([], []), ([10], [10]), ([3, 7, 9, 11], [3, 7, 9, 11]), ([12], [12]), ([12], [12]), ([13, 12, 0, 1, 2, 3, 4, 5, 6, 7, 8, 9, 10, 11, 12, 13, 14], [13]), ([14, 15, 0, 1, 2, 3, 4, 5, 6, 7, 8, 9, 10, 11, 12, 13, 14, 15], [14])])
def clock_Read.B16 : List Nat := [0, 1, 3, 7, 0, 16, 48, 112, 0, 256, 0, 1024, 4095, 8191, 8191, 32767, 65535]
theorem clock_Read.tab16 : rtab .any (opsOf Try.f18 16) = clock_Read.T16 := by kernel_rfl
theorem clock_Read.bits16 : waitsOk clock_Read.T16.2 clock_Read.B16 = true := by kernel_rfl
set_option maxHeartbeats 8000000 in
set_option maxRecDepth 100000 in
theorem clock_Read.calls (k : Nat) (a0 : ByteArray) (r1 : Int) (r2 : Int) (w : World) (h : clock_Read.f k a0 = some (r1, r2)) :
    Calls Try.prog 18 #[.string a0] w fun e w' => e = .returned (.tuple #[.int .i64 r1, .int .i64 r2]) ∧ Below w.heap.size w w' := by
  have hu45 := Try.underlying45
  have HB := Aside0.mk (Below.refl w.heap.size w)
  have H : ((clock_groups.f a0).bind fun bt156 => (if bt156.2.2 = true then (if bt156.2.1.toList = ([58] : List UInt8) then (if 0 < (bt156.1.length : Int) then ((clock_group_one.f ((rd_T45 bt156.1 0).f0) ((rd_T45 bt156.1 0).f1)).bind fun t162 => (if t162 = true then (if 1 < (bt156.1.length : Int) then ((clock_group_two.f ((rd_T45 bt156.1 1).f0) ((rd_T45 bt156.1 1).f1)).bind fun t164 => (clock_Read.j0 k bt156.1 bt156.2.1 (!t164))) else (none)) else (clock_Read.j0 k bt156.1 bt156.2.1 true))) else (none)) else (if bt156.2.1.toList = ([58, 58] : List UInt8) then (if 0 < (bt156.1.length : Int) then ((clock_group_one.f ((rd_T45 bt156.1 0).f0) ((rd_T45 bt156.1 0).f1)).bind fun t166 => (if t166 = true then (if 1 < (bt156.1.length : Int) then ((clock_group_two.f ((rd_T45 bt156.1 1).f0) ((rd_T45 bt156.1 1).f1)).bind fun t168 => (clock_Read.j0 k bt156.1 bt156.2.1 (!t168))) else (none)) else (clock_Read.j0 k bt156.1 bt156.2.1 true))) else (none)) else (if bt156.2.1.toList = ([58, 58, 46] : List UInt8) then (if 0 < (bt156.1.length : Int) then ((clock_group_one.f ((rd_T45 bt156.1 0).f0) ((rd_T45 bt156.1 0).f1)).bind fun t170 => (if t170 = true then (if 1 < (bt156.1.length : Int) then ((clock_group_two.f ((rd_T45 bt156.1 1).f0) ((rd_T45 bt156.1 1).f1)).bind fun t172 => (clock_Read.j0 k bt156.1 bt156.2.1 (!t172))) else (none)) else (clock_Read.j0 k bt156.1 bt156.2.1 true))) else (none)) else (clock_Read.j0 k bt156.1 bt156.2.1 true)))) else (clock_Read.j0 k bt156.1 bt156.2.1 true))) = some (r1, r2) := h
  clear h
  replace H := Option.bind_eq_some_iff.mp H
  obtain ⟨⟨t156, t157, t158⟩, A20, H⟩ := H
  replace H : (if t158 = true then (if t157.toList = ([58] : List UInt8) then (if 0 < (t156.length : Int) then ((clock_group_one.f ((rd_T45 t156 0).f0) ((rd_T45 t156 0).f1)).bind fun t162 => (if t162 = true then (if 1 < (t156.length : Int) then ((clock_group_two.f ((rd_T45 t156 1).f0) ((rd_T45 t156 1).f1)).bind fun t164 => (clock_Read.j0 k t156 t157 (!t164))) else (none)) else (clock_Read.j0 k t156 t157 true))) else (none)) else (if t157.toList = ([58, 58] : List UInt8) then (if 0 < (t156.length : Int) then ((clock_group_one.f ((rd_T45 t156 0).f0) ((rd_T45 t156 0).f1)).bind fun t166 => (if t166 = true then (if 1 < (t156.length : Int) then ((clock_group_two.f ((rd_T45 t156 1).f0) ((rd_T45 t156 1).f1)).bind fun t168 => (clock_Read.j0 k t156 t157 (!t168))) else (none)) else (clock_Read.j0 k t156 t157 true))) else (none)) else (if t157.toList = ([58, 58, 46] : List UInt8) then (if 0 < (t156.length : Int) then ((clock_group_one.f ((rd_T45 t156 0).f0) ((rd_T45 t156 0).f1)).bind fun t170 => (if t170 = true then (if 1 < (t156.length : Int) then ((clock_group_two.f ((rd_T45 t156 1).f0) ((rd_T45 t156 1).f1)).bind fun t172 => (clock_Read.j0 k t156 t157 (!t172))) else (none)) else (clock_Read.j0 k t156 t157 true))) else (none)) else (clock_Read.j0 k t156 t157 true)))) else (clock_Read.j0 k t156 t157 true)) = some (r1, r2) := H
  have A2 := Aside0.mk A20
  clear A20
  have HC3 := Aside0.mk H
  clear H
  go_enter Try.func18, Try.ntmps18
  go_upto_region 2 with (first | ((with_reducible refine gate_callee (f := 33) rfl ?_); refine goesL_ (some 11) rfl rfl Try.func33 (by kernel_rfl) rfl #[.string a0] rfl (by (try simp only [List.map_toArray, List.map_cons, List.map_nil]); first | done | rfl | (simp only [List.length_drop, List.length_take]; rfl)) ?_; (with_reducible refine (clock_groups.calls a0 t156 t157 t158 _ A2.out).mono ?_); rintro e w4 ⟨v159, rfl, ho0, hb⟩; refine ⟨_, rfl, ?_⟩; have n0_ := Aside0.mk (Kd.R_lower ho0 (below_size (by repeat (first | (with_reducible first | exact HB.out | apply below_alloc | apply pw_below_drewN | apply below_drew1) | exact HB.out)))); have n1_ := Aside0.mk (below_step (by repeat (first | (with_reducible first | exact HB.out | apply below_alloc | apply pw_below_drewN | apply below_drew1) | exact HB.out)) hb); clear HB; have HO160 := n0_; have HB := n1_; clear n0_ n1_; (try clear hb); (try clear hb2); (try clear hk); (try clear hi); (try clear ho0)))
  (try simp only [Act.put, List.setIfInBounds_toArray, List.set_cons_zero, List.set_cons_succ])
  go_cut [42] (fun v42 wc => ∃ (kq : Nat) (x42_2 : Bool), v42 = .bool x42_2 ∧ Aside0 (clock_Read.j0 kq t156 t157 x42_2 = some (r1, r2)) ∧ Aside0 (kq ≤ k) ∧ Aside0 (Kd.R k45 45 wc w.heap.size (fun _ => True) v159 t156) ∧ Aside0 (Below w.heap.size w wc))
  case first =>
    have H := HC3.out
    clear HC3
    by_cases c5 : t158 = true
    · subst c5
      have H1 : (if t157.toList = ([58] : List UInt8) then (if 0 < (t156.length : Int) then ((clock_group_one.f ((rd_T45 t156 0).f0) ((rd_T45 t156 0).f1)).bind fun t162 => (if t162 = true then (if 1 < (t156.length : Int) then ((clock_group_two.f ((rd_T45 t156 1).f0) ((rd_T45 t156 1).f1)).bind fun t164 => (clock_Read.j0 k t156 t157 (!t164))) else (none)) else (clock_Read.j0 k t156 t157 true))) else (none)) else (if t157.toList = ([58, 58] : List UInt8) then (if 0 < (t156.length : Int) then ((clock_group_one.f ((rd_T45 t156 0).f0) ((rd_T45 t156 0).f1)).bind fun t166 => (if t166 = true then (if 1 < (t156.length : Int) then ((clock_group_two.f ((rd_T45 t156 1).f0) ((rd_T45 t156 1).f1)).bind fun t168 => (clock_Read.j0 k t156 t157 (!t168))) else (none)) else (clock_Read.j0 k t156 t157 true))) else (none)) else (if t157.toList = ([58, 58, 46] : List UInt8) then (if 0 < (t156.length : Int) then ((clock_group_one.f ((rd_T45 t156 0).f0) ((rd_T45 t156 0).f1)).bind fun t170 => (if t170 = true then (if 1 < (t156.length : Int) then ((clock_group_two.f ((rd_T45 t156 1).f0) ((rd_T45 t156 1).f1)).bind fun t172 => (clock_Read.j0 k t156 t157 (!t172))) else (none)) else (clock_Read.j0 k t156 t157 true))) else (none)) else (clock_Read.j0 k t156 t157 true)))) = some (r1, r2) := by rw [if_pos rfl] at H; exact H
      clear H
      have H := H1
      clear H1
      by_cases c6 : t157.toList = ([58] : List UInt8)
      · rw [if_pos c6] at H
        have c6b0 : (t157.toList == ([58] : List UInt8)) = true := beq_iff_eq.mpr c6
        have c6b1 : (t157.toList != ([58] : List UInt8)) = false := bne_eq_false_iff_eq.mpr c6
        clear c6
        (first | rw [c6b0] | (simp only [i64_w, i32_w]; rw [c6b0]) | skip)
        by_cases c7 : 0 < (t156.length : Int)
        · rw [if_pos c7] at H
          have c7b0 : decide (0 < (t156.length : Int)) = true := decide_eq_true c7
          have c7b1 : decide (0 < t156.length) = true := decide_eq_true (by omega)
          clear c7
          replace H := Option.bind_eq_some_iff.mp H
          obtain ⟨t162, A80, H⟩ := H
          replace H : (if t162 = true then (if 1 < (t156.length : Int) then ((clock_group_two.f ((rd_T45 t156 1).f0) ((rd_T45 t156 1).f1)).bind fun t164 => (clock_Read.j0 k t156 t157 (!t164))) else (none)) else (clock_Read.j0 k t156 t157 true)) = some (r1, r2) := H
          have A8 := Aside0.mk A80
          clear A80
          by_cases c9 : t162 = true
          · subst c9
            have H1 : (if 1 < (t156.length : Int) then ((clock_group_two.f ((rd_T45 t156 1).f0) ((rd_T45 t156 1).f1)).bind fun t164 => (clock_Read.j0 k t156 t157 (!t164))) else (none)) = some (r1, r2) := by rw [if_pos rfl] at H; exact H
            clear H
            have H := H1
            clear H1
            by_cases c10 : 1 < (t156.length : Int)
            · rw [if_pos c10] at H
              have c10b0 : decide (1 < (t156.length : Int)) = true := decide_eq_true c10
              have c10b1 : decide (1 < t156.length) = true := decide_eq_true (by omega)
              clear c10
              replace H := Option.bind_eq_some_iff.mp H
              obtain ⟨t164, A110, H⟩ := H
              replace H : (clock_Read.j0 k t156 t157 (!t164)) = some (r1, r2) := H
              have A11 := Aside0.mk A110
              clear A110
              have H' := Aside0.mk H
              clear H
              obtain ⟨Ao12, co12, eo12⟩ := Kd.R_slice HO160.out
              subst eo12
              have p161 : 0 ≤ (0 : Int) := (by omega)
              have q161 : 0 < (t156.length : Int) := of_decide_eq_true (by first | (with_reducible assumption) | assumption)
              obtain ⟨ad161, e161, hx161_0, hx161_1⟩ := at_T45 (Kd.R_reads' HO160.out).2.2 0 p161 q161
              cases e161
              have qi161 : (0 < t156.length) = True := eq_true (by omega)
              (try rw [show ((0 : Int)).toNat = 0 from rfl] at hx161_0)
              (try rw [show 0 * 2 = 0 from rfl] at hx161_0)
              (try rw [Addr.add_zero'] at hx161_0)
              (try rw [show ((0 : Int)).toNat = 0 from rfl] at hx161_1)
              (try rw [show 0 * 2 = 0 from rfl] at hx161_1)
              (try rw [Addr.add_zero'] at hx161_1)
              replace p161 := eq_true p161
              replace q161 := eq_true q161
              go_wp2_with (first | (go_at_call 34; (with_reducible refine (clock_group_one.calls ((rd_T45 t156 0).f0) ((rd_T45 t156 0).f1) true _ A8.out).mono ?_); rintro e w13 ⟨rfl, hb⟩; have n0_ := Aside0.mk (Kd.R_below (by (with_reducible repeat (first | apply Kd.R_alloc | apply Kd.R_drewN | apply Kd.R_drew)); exact HO160.out) hb); have n1_ := Aside0.mk (below_step (by repeat (first | (with_reducible first | exact HB.out | apply below_alloc | apply pw_below_drewN | apply below_drew1) | exact HB.out)) hb); clear HO160; clear HB; have HO160 := n0_; have HB := n1_; clear n0_ n1_; (try clear hb); (try clear hb2); (try clear hk); (try clear hi); have p163 : 0 ≤ (1 : Int) := (by omega); have q163 : 1 < (t156.length : Int) := of_decide_eq_true (by first | (with_reducible assumption) | assumption); obtain ⟨ad163, e163, hx163_0, hx163_1⟩ := at_T45 (Kd.R_reads' HO160.out).2.2 1 p163 q163; obtain rfl : ad161 = ad163 := (by injection e163); (try simp only [show (1 : Int).toNat = 1 from rfl, Nat.reduceMul, Nat.reduceEqDiff, Go.Addr.add, ↓reduceIte] at hx163_0); (try simp only [show (1 : Int).toNat = 1 from rfl, Nat.reduceMul, Nat.reduceEqDiff, Go.Addr.add, ↓reduceIte] at hx163_1); have qi163 : (1 < t156.length) = True := eq_true (by omega); (try rw [show ((1 : Int)).toNat = 1 from rfl] at hx163_0); (try rw [show 1 * 2 = 2 from rfl] at hx163_0); (try rw [show ((1 : Int)).toNat = 1 from rfl] at hx163_1); (try rw [show 1 * 2 = 2 from rfl] at hx163_1); replace p163 := eq_true p163; replace q163 := eq_true q163) | (go_at_call 35; (with_reducible refine (clock_group_two.calls ((rd_T45 t156 1).f0) ((rd_T45 t156 1).f1) t164 _ A11.out).mono ?_); rintro e w14 ⟨rfl, hb⟩; have n0_ := Aside0.mk (Kd.R_below (by (with_reducible repeat (first | apply Kd.R_alloc | apply Kd.R_drewN | apply Kd.R_drew)); exact HO160.out) hb); have n1_ := Aside0.mk (below_step (by repeat (first | (with_reducible first | exact HB.out | apply below_alloc | apply pw_below_drewN | apply below_drew1) | exact HB.out)) hb); clear HO160; clear HB; have HO160 := n0_; have HB := n1_; clear n0_ n1_; (try clear hb); (try clear hb2); (try clear hk); (try clear hi)))
              go_meet
              case rel => exact ⟨_, (!t164), (by first | rfl | (simp; done) | (simp [*]; done)), H', ⟨by first | omega | exact Nat.le_refl _⟩, ⟨by (with_reducible repeat (first | apply Kd.R_alloc | apply Kd.R_drewN | apply Kd.R_drew)); exact HO160.out⟩, ⟨by repeat (first | (with_reducible first | exact HB.out | apply below_alloc | apply pw_below_drewN | apply below_drew1) | exact HB.out)⟩⟩
            · rw [if_neg c10] at H
              exact absurd H (by simp)
          · replace c9 := Bool.eq_false_iff.mpr c9
            subst c9
            have H1 : (clock_Read.j0 k t156 t157 true) = some (r1, r2) := by rw [if_neg (show ¬ (false = true) by decide)] at H; exact H
            clear H
            have H := H1
            clear H1
            have H' := Aside0.mk H
            clear H
            obtain ⟨Ao15, co15, eo15⟩ := Kd.R_slice HO160.out
            subst eo15
            have p161 : 0 ≤ (0 : Int) := (by omega)
            have q161 : 0 < (t156.length : Int) := of_decide_eq_true (by first | (with_reducible assumption) | assumption)
            obtain ⟨ad161, e161, hx161_0, hx161_1⟩ := at_T45 (Kd.R_reads' HO160.out).2.2 0 p161 q161
            cases e161
            have qi161 : (0 < t156.length) = True := eq_true (by omega)
            (try rw [show ((0 : Int)).toNat = 0 from rfl] at hx161_0)
            (try rw [show 0 * 2 = 0 from rfl] at hx161_0)
            (try rw [Addr.add_zero'] at hx161_0)
            (try rw [show ((0 : Int)).toNat = 0 from rfl] at hx161_1)
            (try rw [show 0 * 2 = 0 from rfl] at hx161_1)
            (try rw [Addr.add_zero'] at hx161_1)
            replace p161 := eq_true p161
            replace q161 := eq_true q161
            go_wp2_with (first | (go_at_call 34; (with_reducible refine (clock_group_one.calls ((rd_T45 t156 0).f0) ((rd_T45 t156 0).f1) false _ A8.out).mono ?_); rintro e w16 ⟨rfl, hb⟩; have n0_ := Aside0.mk (Kd.R_below (by (with_reducible repeat (first | apply Kd.R_alloc | apply Kd.R_drewN | apply Kd.R_drew)); exact HO160.out) hb); have n1_ := Aside0.mk (below_step (by repeat (first | (with_reducible first | exact HB.out | apply below_alloc | apply pw_below_drewN | apply below_drew1) | exact HB.out)) hb); clear HO160; clear HB; have HO160 := n0_; have HB := n1_; clear n0_ n1_; (try clear hb); (try clear hb2); (try clear hk); (try clear hi)))
            go_meet
            case rel => exact ⟨_, (true), (by first | rfl | (simp; done) | (simp [*]; done)), H', ⟨by first | omega | exact Nat.le_refl _⟩, ⟨by (with_reducible repeat (first | apply Kd.R_alloc | apply Kd.R_drewN | apply Kd.R_drew)); exact HO160.out⟩, ⟨by repeat (first | (with_reducible first | exact HB.out | apply below_alloc | apply pw_below_drewN | apply below_drew1) | exact HB.out)⟩⟩
        · rw [if_neg c7] at H
          exact absurd H (by simp)
      · rw [if_neg c6] at H
        have c6b0 : (t157.toList == ([58] : List UInt8)) = false := beq_eq_false_iff_ne.mpr c6
        have c6b1 : (t157.toList != ([58] : List UInt8)) = true := bne_iff_ne.mpr c6
        (first | rw [c6b0] | (simp only [i64_w, i32_w]; rw [c6b0]) | skip)
        by_cases c17 : t157.toList = ([58, 58] : List UInt8)
        · rw [if_pos c17] at H
          have c17b0 : (t157.toList == ([58, 58] : List UInt8)) = true := beq_iff_eq.mpr c17
          have c17b1 : (t157.toList != ([58, 58] : List UInt8)) = false := bne_eq_false_iff_eq.mpr c17
          clear c17
          by_cases c18 : 0 < (t156.length : Int)
          · rw [if_pos c18] at H
            have c18b0 : decide (0 < (t156.length : Int)) = true := decide_eq_true c18
            have c18b1 : decide (0 < t156.length) = true := decide_eq_true (by omega)
            clear c18
            replace H := Option.bind_eq_some_iff.mp H
            obtain ⟨t166, A190, H⟩ := H
            replace H : (if t166 = true then (if 1 < (t156.length : Int) then ((clock_group_two.f ((rd_T45 t156 1).f0) ((rd_T45 t156 1).f1)).bind fun t168 => (clock_Read.j0 k t156 t157 (!t168))) else (none)) else (clock_Read.j0 k t156 t157 true)) = some (r1, r2) := H
            have A19 := Aside0.mk A190
            clear A190
            by_cases c20 : t166 = true
            · subst c20
              have H1 : (if 1 < (t156.length : Int) then ((clock_group_two.f ((rd_T45 t156 1).f0) ((rd_T45 t156 1).f1)).bind fun t168 => (clock_Read.j0 k t156 t157 (!t168))) else (none)) = some (r1, r2) := by rw [if_pos rfl] at H; exact H
              clear H
              have H := H1
              clear H1
              by_cases c21 : 1 < (t156.length : Int)
              · rw [if_pos c21] at H
                have c21b0 : decide (1 < (t156.length : Int)) = true := decide_eq_true c21
                have c21b1 : decide (1 < t156.length) = true := decide_eq_true (by omega)
                clear c21
                replace H := Option.bind_eq_some_iff.mp H
                obtain ⟨t168, A220, H⟩ := H
                replace H : (clock_Read.j0 k t156 t157 (!t168)) = some (r1, r2) := H
                have A22 := Aside0.mk A220
                clear A220
                have H' := Aside0.mk H
                clear H
                obtain ⟨Ao23, co23, eo23⟩ := Kd.R_slice HO160.out
                subst eo23
                have p165 : 0 ≤ (0 : Int) := (by omega)
                have q165 : 0 < (t156.length : Int) := of_decide_eq_true (by first | (with_reducible assumption) | assumption)
                obtain ⟨ad165, e165, hx165_0, hx165_1⟩ := at_T45 (Kd.R_reads' HO160.out).2.2 0 p165 q165
                cases e165
                have qi165 : (0 < t156.length) = True := eq_true (by omega)
                (try rw [show ((0 : Int)).toNat = 0 from rfl] at hx165_0)
                (try rw [show 0 * 2 = 0 from rfl] at hx165_0)
                (try rw [Addr.add_zero'] at hx165_0)
                (try rw [show ((0 : Int)).toNat = 0 from rfl] at hx165_1)
                (try rw [show 0 * 2 = 0 from rfl] at hx165_1)
                (try rw [Addr.add_zero'] at hx165_1)
                replace p165 := eq_true p165
                replace q165 := eq_true q165
                go_wp2_with (first | (go_at_call 34; (with_reducible refine (clock_group_one.calls ((rd_T45 t156 0).f0) ((rd_T45 t156 0).f1) true _ A19.out).mono ?_); rintro e w24 ⟨rfl, hb⟩; have n0_ := Aside0.mk (Kd.R_below (by (with_reducible repeat (first | apply Kd.R_alloc | apply Kd.R_drewN | apply Kd.R_drew)); exact HO160.out) hb); have n1_ := Aside0.mk (below_step (by repeat (first | (with_reducible first | exact HB.out | apply below_alloc | apply pw_below_drewN | apply below_drew1) | exact HB.out)) hb); clear HO160; clear HB; have HO160 := n0_; have HB := n1_; clear n0_ n1_; (try clear hb); (try clear hb2); (try clear hk); (try clear hi); have p167 : 0 ≤ (1 : Int) := (by omega); have q167 : 1 < (t156.length : Int) := of_decide_eq_true (by first | (with_reducible assumption) | assumption); obtain ⟨ad167, e167, hx167_0, hx167_1⟩ := at_T45 (Kd.R_reads' HO160.out).2.2 1 p167 q167; obtain rfl : ad165 = ad167 := (by injection e167); (try simp only [show (1 : Int).toNat = 1 from rfl, Nat.reduceMul, Nat.reduceEqDiff, Go.Addr.add, ↓reduceIte] at hx167_0); (try simp only [show (1 : Int).toNat = 1 from rfl, Nat.reduceMul, Nat.reduceEqDiff, Go.Addr.add, ↓reduceIte] at hx167_1); have qi167 : (1 < t156.length) = True := eq_true (by omega); (try rw [show ((1 : Int)).toNat = 1 from rfl] at hx167_0); (try rw [show 1 * 2 = 2 from rfl] at hx167_0); (try rw [show ((1 : Int)).toNat = 1 from rfl] at hx167_1); (try rw [show 1 * 2 = 2 from rfl] at hx167_1); replace p167 := eq_true p167; replace q167 := eq_true q167) | (go_at_call 35; (with_reducible refine (clock_group_two.calls ((rd_T45 t156 1).f0) ((rd_T45 t156 1).f1) t168 _ A22.out).mono ?_); rintro e w25 ⟨rfl, hb⟩; have n0_ := Aside0.mk (Kd.R_below (by (with_reducible repeat (first | apply Kd.R_alloc | apply Kd.R_drewN | apply Kd.R_drew)); exact HO160.out) hb); have n1_ := Aside0.mk (below_step (by repeat (first | (with_reducible first | exact HB.out | apply below_alloc | apply pw_below_drewN | apply below_drew1) | exact HB.out)) hb); clear HO160; clear HB; have HO160 := n0_; have HB := n1_; clear n0_ n1_; (try clear hb); (try clear hb2); (try clear hk); (try clear hi)))
                go_meet
                case rel => exact ⟨_, (!t168), (by first | rfl | (simp; done) | (simp [*]; done)), H', ⟨by first | omega | exact Nat.le_refl _⟩, ⟨by (with_reducible repeat (first | apply Kd.R_alloc | apply Kd.R_drewN | apply Kd.R_drew)); exact HO160.out⟩, ⟨by repeat (first | (with_reducible first | exact HB.out | apply below_alloc | apply pw_below_drewN | apply below_drew1) | exact HB.out)⟩⟩
              · rw [if_neg c21] at H
                exact absurd H (by simp)
            · replace c20 := Bool.eq_false_iff.mpr c20
              subst c20
              have H1 : (clock_Read.j0 k t156 t157 true) = some (r1, r2) := by rw [if_neg (show ¬ (false = true) by decide)] at H; exact H
              clear H
              have H := H1
              clear H1
              have H' := Aside0.mk H
              clear H
              obtain ⟨Ao26, co26, eo26⟩ := Kd.R_slice HO160.out
              subst eo26
              have p165 : 0 ≤ (0 : Int) := (by omega)
              have q165 : 0 < (t156.length : Int) := of_decide_eq_true (by first | (with_reducible assumption) | assumption)
              obtain ⟨ad165, e165, hx165_0, hx165_1⟩ := at_T45 (Kd.R_reads' HO160.out).2.2 0 p165 q165
              cases e165
              have qi165 : (0 < t156.length) = True := eq_true (by omega)
              (try rw [show ((0 : Int)).toNat = 0 from rfl] at hx165_0)
              (try rw [show 0 * 2 = 0 from rfl] at hx165_0)
              (try rw [Addr.add_zero'] at hx165_0)
              (try rw [show ((0 : Int)).toNat = 0 from rfl] at hx165_1)
              (try rw [show 0 * 2 = 0 from rfl] at hx165_1)
              (try rw [Addr.add_zero'] at hx165_1)
              replace p165 := eq_true p165
              replace q165 := eq_true q165
              go_wp2_with (first | (go_at_call 34; (with_reducible refine (clock_group_one.calls ((rd_T45 t156 0).f0) ((rd_T45 t156 0).f1) false _ A19.out).mono ?_); rintro e w27 ⟨rfl, hb⟩; have n0_ := Aside0.mk (Kd.R_below (by (with_reducible repeat (first | apply Kd.R_alloc | apply Kd.R_drewN | apply Kd.R_drew)); exact HO160.out) hb); have n1_ := Aside0.mk (below_step (by repeat (first | (with_reducible first | exact HB.out | apply below_alloc | apply pw_below_drewN | apply below_drew1) | exact HB.out)) hb); clear HO160; clear HB; have HO160 := n0_; have HB := n1_; clear n0_ n1_; (try clear hb); (try clear hb2); (try clear hk); (try clear hi)))
              go_meet
              case rel => exact ⟨_, (true), (by first | rfl | (simp; done) | (simp [*]; done)), H', ⟨by first | omega | exact Nat.le_refl _⟩, ⟨by (with_reducible repeat (first | apply Kd.R_alloc | apply Kd.R_drewN | apply Kd.R_drew)); exact HO160.out⟩, ⟨by repeat (first | (with_reducible first | exact HB.out | apply below_alloc | apply pw_below_drewN | apply below_drew1) | exact HB.out)⟩⟩
          · rw [if_neg c18] at H
            exact absurd H (by simp)
        · rw [if_neg c17] at H
          have c17b0 : (t157.toList == ([58, 58] : List UInt8)) = false := beq_eq_false_iff_ne.mpr c17
          have c17b1 : (t157.toList != ([58, 58] : List UInt8)) = true := bne_iff_ne.mpr c17
          by_cases c28 : t157.toList = ([58, 58, 46] : List UInt8)
          · rw [if_pos c28] at H
            have c28b0 : (t157.toList == ([58, 58, 46] : List UInt8)) = true := beq_iff_eq.mpr c28
            have c28b1 : (t157.toList != ([58, 58, 46] : List UInt8)) = false := bne_eq_false_iff_eq.mpr c28
            clear c28
            by_cases c29 : 0 < (t156.length : Int)
            · rw [if_pos c29] at H
              have c29b0 : decide (0 < (t156.length : Int)) = true := decide_eq_true c29
              have c29b1 : decide (0 < t156.length) = true := decide_eq_true (by omega)
              clear c29
              replace H := Option.bind_eq_some_iff.mp H
              obtain ⟨t170, A300, H⟩ := H
              replace H : (if t170 = true then (if 1 < (t156.length : Int) then ((clock_group_two.f ((rd_T45 t156 1).f0) ((rd_T45 t156 1).f1)).bind fun t172 => (clock_Read.j0 k t156 t157 (!t172))) else (none)) else (clock_Read.j0 k t156 t157 true)) = some (r1, r2) := H
              have A30 := Aside0.mk A300
              clear A300
              by_cases c31 : t170 = true
              · subst c31
                have H1 : (if 1 < (t156.length : Int) then ((clock_group_two.f ((rd_T45 t156 1).f0) ((rd_T45 t156 1).f1)).bind fun t172 => (clock_Read.j0 k t156 t157 (!t172))) else (none)) = some (r1, r2) := by rw [if_pos rfl] at H; exact H
                clear H
                have H := H1
                clear H1
                by_cases c32 : 1 < (t156.length : Int)
                · rw [if_pos c32] at H
                  have c32b0 : decide (1 < (t156.length : Int)) = true := decide_eq_true c32
                  have c32b1 : decide (1 < t156.length) = true := decide_eq_true (by omega)
                  clear c32
                  replace H := Option.bind_eq_some_iff.mp H
                  obtain ⟨t172, A330, H⟩ := H
                  replace H : (clock_Read.j0 k t156 t157 (!t172)) = some (r1, r2) := H
                  have A33 := Aside0.mk A330
                  clear A330
                  have H' := Aside0.mk H
                  clear H
                  obtain ⟨Ao34, co34, eo34⟩ := Kd.R_slice HO160.out
                  subst eo34
                  have p169 : 0 ≤ (0 : Int) := (by omega)
                  have q169 : 0 < (t156.length : Int) := of_decide_eq_true (by first | (with_reducible assumption) | assumption)
                  obtain ⟨ad169, e169, hx169_0, hx169_1⟩ := at_T45 (Kd.R_reads' HO160.out).2.2 0 p169 q169
                  cases e169
                  have qi169 : (0 < t156.length) = True := eq_true (by omega)
                  (try rw [show ((0 : Int)).toNat = 0 from rfl] at hx169_0)
                  (try rw [show 0 * 2 = 0 from rfl] at hx169_0)
                  (try rw [Addr.add_zero'] at hx169_0)
                  (try rw [show ((0 : Int)).toNat = 0 from rfl] at hx169_1)
                  (try rw [show 0 * 2 = 0 from rfl] at hx169_1)
                  (try rw [Addr.add_zero'] at hx169_1)
                  replace p169 := eq_true p169
                  replace q169 := eq_true q169
                  go_wp2_with (first | (go_at_call 34; (with_reducible refine (clock_group_one.calls ((rd_T45 t156 0).f0) ((rd_T45 t156 0).f1) true _ A30.out).mono ?_); rintro e w35 ⟨rfl, hb⟩; have n0_ := Aside0.mk (Kd.R_below (by (with_reducible repeat (first | apply Kd.R_alloc | apply Kd.R_drewN | apply Kd.R_drew)); exact HO160.out) hb); have n1_ := Aside0.mk (below_step (by repeat (first | (with_reducible first | exact HB.out | apply below_alloc | apply pw_below_drewN | apply below_drew1) | exact HB.out)) hb); clear HO160; clear HB; have HO160 := n0_; have HB := n1_; clear n0_ n1_; (try clear hb); (try clear hb2); (try clear hk); (try clear hi); have p171 : 0 ≤ (1 : Int) := (by omega); have q171 : 1 < (t156.length : Int) := of_decide_eq_true (by first | (with_reducible assumption) | assumption); obtain ⟨ad171, e171, hx171_0, hx171_1⟩ := at_T45 (Kd.R_reads' HO160.out).2.2 1 p171 q171; obtain rfl : ad169 = ad171 := (by injection e171); (try simp only [show (1 : Int).toNat = 1 from rfl, Nat.reduceMul, Nat.reduceEqDiff, Go.Addr.add, ↓reduceIte] at hx171_0); (try simp only [show (1 : Int).toNat = 1 from rfl, Nat.reduceMul, Nat.reduceEqDiff, Go.Addr.add, ↓reduceIte] at hx171_1); have qi171 : (1 < t156.length) = True := eq_true (by omega); (try rw [show ((1 : Int)).toNat = 1 from rfl] at hx171_0); (try rw [show 1 * 2 = 2 from rfl] at hx171_0); (try rw [show ((1 : Int)).toNat = 1 from rfl] at hx171_1); (try rw [show 1 * 2 = 2 from rfl] at hx171_1); replace p171 := eq_true p171; replace q171 := eq_true q171) | (go_at_call 35; (with_reducible refine (clock_group_two.calls ((rd_T45 t156 1).f0) ((rd_T45 t156 1).f1) t172 _ A33.out).mono ?_); rintro e w36 ⟨rfl, hb⟩; have n0_ := Aside0.mk (Kd.R_below (by (with_reducible repeat (first | apply Kd.R_alloc | apply Kd.R_drewN | apply Kd.R_drew)); exact HO160.out) hb); have n1_ := Aside0.mk (below_step (by repeat (first | (with_reducible first | exact HB.out | apply below_alloc | apply pw_below_drewN | apply below_drew1) | exact HB.out)) hb); clear HO160; clear HB; have HO160 := n0_; have HB := n1_; clear n0_ n1_; (try clear hb); (try clear hb2); (try clear hk); (try clear hi)))
                  go_meet
                  case rel => exact ⟨_, (!t172), (by first | rfl | (simp; done) | (simp [*]; done)), H', ⟨by first | omega | exact Nat.le_refl _⟩, ⟨by (with_reducible repeat (first | apply Kd.R_alloc | apply Kd.R_drewN | apply Kd.R_drew)); exact HO160.out⟩, ⟨by repeat (first | (with_reducible first | exact HB.out | apply below_alloc | apply pw_below_drewN | apply below_drew1) | exact HB.out)⟩⟩
                · rw [if_neg c32] at H
                  exact absurd H (by simp)
              · replace c31 := Bool.eq_false_iff.mpr c31
                subst c31
                have H1 : (clock_Read.j0 k t156 t157 true) = some (r1, r2) := by rw [if_neg (show ¬ (false = true) by decide)] at H; exact H
                clear H
                have H := H1
                clear H1
                have H' := Aside0.mk H
                clear H
                obtain ⟨Ao37, co37, eo37⟩ := Kd.R_slice HO160.out
                subst eo37
                have p169 : 0 ≤ (0 : Int) := (by omega)
                have q169 : 0 < (t156.length : Int) := of_decide_eq_true (by first | (with_reducible assumption) | assumption)
                obtain ⟨ad169, e169, hx169_0, hx169_1⟩ := at_T45 (Kd.R_reads' HO160.out).2.2 0 p169 q169
                cases e169
                have qi169 : (0 < t156.length) = True := eq_true (by omega)
                (try rw [show ((0 : Int)).toNat = 0 from rfl] at hx169_0)
                (try rw [show 0 * 2 = 0 from rfl] at hx169_0)
                (try rw [Addr.add_zero'] at hx169_0)
                (try rw [show ((0 : Int)).toNat = 0 from rfl] at hx169_1)
                (try rw [show 0 * 2 = 0 from rfl] at hx169_1)
                (try rw [Addr.add_zero'] at hx169_1)
                replace p169 := eq_true p169
                replace q169 := eq_true q169
                go_wp2_with (first | (go_at_call 34; (with_reducible refine (clock_group_one.calls ((rd_T45 t156 0).f0) ((rd_T45 t156 0).f1) false _ A30.out).mono ?_); rintro e w38 ⟨rfl, hb⟩; have n0_ := Aside0.mk (Kd.R_below (by (with_reducible repeat (first | apply Kd.R_alloc | apply Kd.R_drewN | apply Kd.R_drew)); exact HO160.out) hb); have n1_ := Aside0.mk (below_step (by repeat (first | (with_reducible first | exact HB.out | apply below_alloc | apply pw_below_drewN | apply below_drew1) | exact HB.out)) hb); clear HO160; clear HB; have HO160 := n0_; have HB := n1_; clear n0_ n1_; (try clear hb); (try clear hb2); (try clear hk); (try clear hi)))
                go_meet
                case rel => exact ⟨_, (true), (by first | rfl | (simp; done) | (simp [*]; done)), H', ⟨by first | omega | exact Nat.le_refl _⟩, ⟨by (with_reducible repeat (first | apply Kd.R_alloc | apply Kd.R_drewN | apply Kd.R_drew)); exact HO160.out⟩, ⟨by repeat (first | (with_reducible first | exact HB.out | apply below_alloc | apply pw_below_drewN | apply below_drew1) | exact HB.out)⟩⟩
            · rw [if_neg c29] at H
              exact absurd H (by simp)
          · rw [if_neg c28] at H
            have c28b0 : (t157.toList == ([58, 58, 46] : List UInt8)) = false := beq_eq_false_iff_ne.mpr c28
            have c28b1 : (t157.toList != ([58, 58, 46] : List UInt8)) = true := bne_iff_ne.mpr c28
            have H' := Aside0.mk H
            clear H
            go_wp2
            go_meet
            case rel => exact ⟨_, (true), (by first | rfl | (simp; done) | (simp [*]; done)), H', ⟨by first | omega | exact Nat.le_refl _⟩, ⟨by (with_reducible repeat (first | apply Kd.R_alloc | apply Kd.R_drewN | apply Kd.R_drew)); exact HO160.out⟩, ⟨by repeat (first | (with_reducible first | exact HB.out | apply below_alloc | apply pw_below_drewN | apply below_drew1) | exact HB.out)⟩⟩
    · replace c5 := Bool.eq_false_iff.mpr c5
      subst c5
      have H1 : (clock_Read.j0 k t156 t157 true) = some (r1, r2) := by rw [if_neg (show ¬ (false = true) by decide)] at H; exact H
      clear H
      have H := H1
      clear H1
      have H' := Aside0.mk H
      clear H
      go_wp2
      go_meet
      case rel => exact ⟨_, (true), (by first | rfl | (simp; done) | (simp [*]; done)), H', ⟨by first | omega | exact Nat.le_refl _⟩, ⟨by (with_reducible repeat (first | apply Kd.R_alloc | apply Kd.R_drewN | apply Kd.R_drew)); exact HO160.out⟩, ⟨by repeat (first | (with_reducible first | exact HB.out | apply below_alloc | apply pw_below_drewN | apply below_drew1) | exact HB.out)⟩⟩
  case rest =>
    clear HC3
    try clear c1
    try clear p1
    try clear q1
    try clear hx1
    try clear qi1
    try clear c2
    try clear p2
    try clear c3
    try clear c5
    try clear c6
    try clear c6b0
    try clear c6b1
    try clear c7
    try clear c7b0
    try clear c7b1
    try clear c9
    try clear c10
    try clear c10b0
    try clear c10b1
    try clear p16
    try clear q16
    try clear hx16
    try clear qi16
    try clear c17
    try clear c17b0
    try clear c17b1
    try clear p17
    try clear q17
    try clear hx17
    try clear qi17
    try clear c18
    try clear c18b0
    try clear c18b1
    try clear c20
    try clear c21
    try clear c21b0
    try clear c21b1
    try clear c28
    try clear c28b0
    try clear c28b1
    try clear c29
    try clear c29b0
    try clear c29b1
    try clear c31
    try clear c32
    try clear c32b0
    try clear c32b1
    try clear c33
    try clear hx161_0
    try clear hx161_1
    try clear hx163_0
    try clear hx163_1
    try clear hx165_0
    try clear hx165_1
    try clear hx167_0
    try clear hx167_1
    try clear hx169_0
    try clear hx169_1
    try clear hx171_0
    try clear hx171_1
    try clear p161
    try clear p163
    try clear p165
    try clear p167
    try clear p169
    try clear p171
    try clear q161
    try clear q163
    try clear q165
    try clear q167
    try clear q169
    try clear q171
    obtain ⟨kq, x42_2, rfl, HA, HJ2, HO_4, HB⟩ := hcut
    cases kq with
    | zero => exact absurd HA.out (by simp [clock_Read.j0])
    | succ kj2 =>
      have H := HA.out
      clear HA
      simp only [clock_Read.j0] at H
      by_cases c39 : x42_2 = true
      · subst c39
        have H1 : (some (0, 13)) = some (r1, r2) := by rw [if_pos rfl] at H; exact H
        clear H
        have H := H1
        clear H1
        simp only [Option.some.injEq, Prod.mk.injEq] at H
        obtain ⟨rfl, rfl⟩ := H
        go_wp2
        go_ret2
        exact ⟨by first | rfl | (simp [errW_none, errW_some] <;> rfl) | (simp [*, errW_none, errW_some] <;> rfl), by repeat (first | (with_reducible first | exact HB.out | apply below_alloc | apply pw_below_drewN | apply below_drew1) | exact HB.out)⟩
      · replace c39 := Bool.eq_false_iff.mpr c39
        subst c39
        have H1 : ((some (([(⟨0, 2⟩ : S45), (⟨0, 6⟩ : S45)] : List (S45)) : List (S45))).bind fun y173 => (if t156.length + y173.length < 8796093022208 then ((some (t156 ++ y173 : List (S45))).bind fun y176 => (if 2 < (y176.length : Int) then (if 3 < (y176.length : Int) then (if t157.toList = ([58] : List UInt8) then (clock_Read.j1 kj2 y176 0 2 0 6) else (if t157.toList = ([58, 58] : List UInt8) then (clock_Read.j1 kj2 y176 ((rd_T45 y176 2).f0) ((rd_T45 y176 2).f1) 0 6) else (clock_Read.j1 kj2 y176 ((rd_T45 y176 2).f0) ((rd_T45 y176 2).f1) ((rd_T45 y176 3).f0) ((rd_T45 y176 3).f1)))) else (none)) else (none))) else (none))) = some (r1, r2) := by rw [if_neg (show ¬ (false = true) by decide)] at H; exact H
        clear H
        have H := H1
        clear H1
        obtain ⟨y173, hy173⟩ : ∃ y_ : List (S45), y_ = (([(⟨0, 2⟩ : S45), (⟨0, 6⟩ : S45)] : List (S45))) := ⟨_, rfl⟩
        replace H : (if t156.length + y173.length < 8796093022208 then ((some (t156 ++ y173 : List (S45))).bind fun y176 => (if 2 < (y176.length : Int) then (if 3 < (y176.length : Int) then (if t157.toList = ([58] : List UInt8) then (clock_Read.j1 kj2 y176 0 2 0 6) else (if t157.toList = ([58, 58] : List UInt8) then (clock_Read.j1 kj2 y176 ((rd_T45 y176 2).f0) ((rd_T45 y176 2).f1) 0 6) else (clock_Read.j1 kj2 y176 ((rd_T45 y176 2).f0) ((rd_T45 y176 2).f1) ((rd_T45 y176 3).f0) ((rd_T45 y176 3).f1)))) else (none)) else (none))) else (none)) = some (r1, r2) := by first | (rw [hy173]; with_reducible exact H) | (have H2_ := (Option.bind_some _ _).symm.trans H; rw [hy173]; with_reducible exact H2_) | (have H2_ := (Option.bind_some _ _).symm.trans H; with_reducible exact H2_) | with_reducible exact H | (rw [hy173]; exact H) | exact H
        have Ny173 := Aside0.mk hy173
        clear hy173
        by_cases c40 : t156.length + y173.length < 8796093022208
        · rw [if_pos c40] at H
          have LMc40 := Aside0.mk c40
          clear c40
          obtain ⟨y176, hy176⟩ : ∃ y_ : List (S45), y_ = (t156 ++ y173) := ⟨_, rfl⟩
          replace H : (if 2 < (y176.length : Int) then (if 3 < (y176.length : Int) then (if t157.toList = ([58] : List UInt8) then (clock_Read.j1 kj2 y176 0 2 0 6) else (if t157.toList = ([58, 58] : List UInt8) then (clock_Read.j1 kj2 y176 ((rd_T45 y176 2).f0) ((rd_T45 y176 2).f1) 0 6) else (clock_Read.j1 kj2 y176 ((rd_T45 y176 2).f0) ((rd_T45 y176 2).f1) ((rd_T45 y176 3).f0) ((rd_T45 y176 3).f1)))) else (none)) else (none)) = some (r1, r2) := by first | (rw [hy176]; with_reducible exact H) | (have H2_ := (Option.bind_some _ _).symm.trans H; rw [hy176]; with_reducible exact H2_) | (have H2_ := (Option.bind_some _ _).symm.trans H; with_reducible exact H2_) | with_reducible exact H | (rw [hy176]; exact H) | exact H
          have Ny176 := Aside0.mk hy176
          clear hy176
          by_cases c41 : 2 < (y176.length : Int)
          · rw [if_pos c41] at H
            have c41b0 : decide (2 < (y176.length : Int)) = true := decide_eq_true c41
            have c41b1 : decide (2 < y176.length) = true := decide_eq_true (by omega)
            clear c41
            by_cases c42 : 3 < (y176.length : Int)
            · rw [if_pos c42] at H
              have c42b0 : decide (3 < (y176.length : Int)) = true := decide_eq_true c42
              have c42b1 : decide (3 < y176.length) = true := decide_eq_true (by omega)
              clear c42
              have HC43 := Aside0.mk H
              clear H
              try go_wp2_with (first | ((with_reducible refine gate_dst (N := 46) rfl ?_); refine Kd.R_lit k45 _ 45 ?hg (N := 46) ?hd (xs := ([(⟨0, 2⟩ : S45), (⟨0, 6⟩ : S45)] : List (S45))) (inner := [.int .i64 0, .int .i64 2, .int .i64 0, .int .i64 6]) (ok := fun _ => True) (okp := fun _ => True) ?hr ?hp (fun _ hk => hk) trivial (Below.refl _ _) (Nat.le_refl _) (by simp) ?_; (case hd => rfl); (case hg => rfl); (case hr => first | (go_simp; done) | (go_simp; rfl)); (case hp => exact (Reps.c2 (show Kd.M k45 _ _ _ (⟨0, 2⟩ : S45) [.int .i64 0, .int .i64 2] from (k45_mkM _ _ _ (⟨0, 2⟩ : S45) )) (Reps.c2 (show Kd.M k45 _ _ _ (⟨0, 6⟩ : S45) [.int .i64 0, .int .i64 6] from (k45_mkM _ _ _ (⟨0, 6⟩ : S45) )) (Reps.none _ _)))); intro v174 w44 ho45 hb hg_ hnew_; clear hg_ hnew_; (first | rw [← Ny173.out] at ho45 | (simp only [Int.reduceToNat] at ho45; rw [← Ny173.out] at ho45)); have n0_ := Aside0.mk (Kd.R_elder' (by (with_reducible repeat (first | apply Kd.R_alloc | apply Kd.R_drewN | apply Kd.R_drew)); exact HO_4.out) (Kd.R_base ho45) hb); have n1_ := Aside0.mk (Kd.R_lower (Kd.R_new' ho45 (Kd.R_lt (by (with_reducible repeat (first | apply Kd.R_alloc | apply Kd.R_drewN | apply Kd.R_drew)); exact HO_4.out))) (below_size (by repeat (first | (with_reducible first | exact HB.out | apply below_alloc | apply pw_below_drewN | apply below_drew1) | exact HB.out)))); have n2_ := Aside0.mk (below_step (by repeat (first | (with_reducible first | exact HB.out | apply below_alloc | apply pw_below_drewN | apply below_drew1) | exact HB.out)) hb); clear HO_4; clear HB; have HO_4 := n0_; have HO175 := n1_; have HB := n2_; clear n0_ n1_ n2_; clear hb ho45; obtain ⟨Ao47, co47, eo47⟩ := Kd.R_slice HO175.out; subst eo47) | ((with_reducible refine gate_builtin (b := .append) (xs := #[.tmp 43, .tmp 46]) rfl ?_); at_builtin; refine Kd.R_append_rows k45 (w0 := w) w.heap.size rfl (.tmp 43) (.tmp 46) 41 45 (.agg #[(.int .i64 0), (.int .i64 0)]) 16 rfl Try.underlying41 info45 rfl (by decide) (by omega) v159 t156 y173 _ _ _ (fun k_ => some k_ ≠ (.slice Ao47 y173.length co47 : Value).ownBlock) (fun _ => False) rfl rfl ?aO ?aR (fun _ _ h => h) (fun _ h => h.elim) ?aF ?aB ?aS ?aL ?_; (case aR => repeat (first | exact (Kd.R_reads' HO175.out).2.2 | (with_reducible refine Kd.C_alloc ?_ _) | (with_reducible refine Kd.C_drewN ?_ _) | (with_reducible refine Kd.C_drew ?_))); (case aB => exact (by repeat (first | (with_reducible first | exact HB.out | apply below_alloc | apply pw_below_drewN | apply below_drew1) | exact HB.out))); (case aF => exact (fun k_ hk => Kd.fresh' (Kd.R_lt (by (with_reducible repeat (first | apply Kd.R_alloc | apply Kd.R_drewN | apply Kd.R_drew)); exact HO175.out)) k_ hk)); (case aO => exact (by (with_reducible repeat (first | apply Kd.R_alloc | apply Kd.R_drewN | apply Kd.R_drew)); exact Kd.R_mono HO_4.out (fun _ hk => hk.2))); (case aS => exact (below_size (by repeat (first | (with_reducible first | exact HB.out | apply below_alloc | apply pw_below_drewN | apply below_drew1) | exact HB.out)))); (case aL => have := LMc40.out; omega); intro v177 w46 ho hb hg hat; rw [← Ny176.out] at ho; have n0_ := Aside0.mk (Kd.R_after (ok := (fun _ => True)) (by (with_reducible repeat (first | apply Kd.R_alloc | apply Kd.R_drewN | apply Kd.R_drew)); exact HO175.out) hg hat); have n1_ := Aside0.mk (hb); have n2_ := Aside0.mk (ho); clear HO175; clear HB; clear HO_4; have HO175 := n0_; have HB := n1_; have HO178 := n2_; clear n0_ n1_ n2_; clear ho hb hg hat))
              have n0_ := Aside0.mk (Kd.R_drew HO175.out)
              have n1_ := Aside0.mk (Kd.R_drew HO178.out)
              have n2_ := Aside0.mk (below_drew1 HB.out)
              clear HO175
              clear HO178
              clear HB
              have HO175 := n0_
              have HO178 := n1_
              have HB := n2_
              clear n0_ n1_ n2_
              obtain ⟨Ao49, co49, eo49⟩ := Kd.R_slice HO178.out
              (first | subst eo49 | (injection eo49 with f1_ f2_ f3_; have f4_ := f1_.symm; have f5_ := f3_.symm; clear f1_ f2_ f3_; subst f4_; subst f5_))
              have p179 : 0 ≤ (2 : Int) := (by omega)
              have q179 : 2 < (y176.length : Int) := of_decide_eq_true (by first | (with_reducible assumption) | assumption)
              obtain ⟨ad179, e179, hx179_0, hx179_1⟩ := at_T45 (Kd.R_reads' HO178.out).2.2 2 p179 q179
              cases e179
              (try simp only [show (2 : Int).toNat = 2 from rfl, Nat.reduceMul, Nat.reduceEqDiff, Go.Addr.add, ↓reduceIte] at hx179_0)
              (try simp only [show (2 : Int).toNat = 2 from rfl, Nat.reduceMul, Nat.reduceEqDiff, Go.Addr.add, ↓reduceIte] at hx179_1)
              have qi179 : (2 < y176.length) = True := eq_true (by omega)
              (try rw [show ((2 : Int)).toNat = 2 from rfl] at hx179_0)
              (try rw [show 2 * 2 = 4 from rfl] at hx179_0)
              (try rw [show ((2 : Int)).toNat = 2 from rfl] at hx179_1)
              (try rw [show 2 * 2 = 4 from rfl] at hx179_1)
              replace p179 := eq_true p179
              replace q179 := eq_true q179
              have p180 : 0 ≤ (3 : Int) := (by omega)
              have q180 : 3 < (y176.length : Int) := of_decide_eq_true (by first | (with_reducible assumption) | assumption)
              obtain ⟨ad180, e180, hx180_0, hx180_1⟩ := at_T45 (Kd.R_reads' HO178.out).2.2 3 p180 q180
              obtain rfl : ad179 = ad180 := (by injection e180)
              (try simp only [show (3 : Int).toNat = 3 from rfl, Nat.reduceMul, Nat.reduceEqDiff, Go.Addr.add, ↓reduceIte] at hx180_0)
              (try simp only [show (3 : Int).toNat = 3 from rfl, Nat.reduceMul, Nat.reduceEqDiff, Go.Addr.add, ↓reduceIte] at hx180_1)
              have qi180 : (3 < y176.length) = True := eq_true (by omega)
              (try rw [show ((3 : Int)).toNat = 3 from rfl] at hx180_0)
              (try rw [show 3 * 2 = 6 from rfl] at hx180_0)
              (try rw [show ((3 : Int)).toNat = 3 from rfl] at hx180_1)
              (try rw [show 3 * 2 = 6 from rfl] at hx180_1)
              replace p180 := eq_true p180
              replace q180 := eq_true q180
              refine start_ (n := 10) (S := fun w' => w'.cell? ⟨ad179.block, ad179.off + 4, none⟩ = some (.int .i64 ((rd_T45 y176 2).f0)) ∧ w'.cell? ⟨ad179.block, ad179.off + 4 + 1, none⟩ = some (.int .i64 ((rd_T45 y176 2).f1)) ∧ w'.cell? ⟨ad179.block, ad179.off + 6, none⟩ = some (.int .i64 ((rd_T45 y176 3).f0)) ∧ w'.cell? ⟨ad179.block, ad179.off + 6 + 1, none⟩ = some (.int .i64 ((rd_T45 y176 3).f1))) (ds := []) #[false, false, false, false, false, false, false, false, false, false] (by kernel_rfl) rfl rfl ⟨hx179_0, hx179_1, hx180_0, hx180_1⟩ (fun hHeld => ?_); refine with_tabW clock_Read.tab5 clock_Read.bits5 (fun HT_ HW_ => ?_)
              generalize w46.drew = w48 at HO175 HO178 HB hx179_0 hx179_1 hx180_0 hx180_1 hHeld ⊢
              refine pure_ (i := 0) (N := some 48) (v := ?_) (a' := ?_) #[true, false, false, false, false, false, false, false, false, false] rfl rfl (any_of HT_.out (by kernel_rfl)) (fun _ _ _ h => h) (Or.inl ⟨by rfl, ?_⟩) ?_ ?_
              rotate_left
              · intro w'
                go_simp
                with_reducible rfl
              rotate_left
              · simp only [Act.put, List.setIfInBounds_toArray, List.set_cons_zero, List.set_cons_succ, i64_w, i32_w]
                rfl
              refine pure_ (i := 1) (N := some 49) (v := ?_) (a' := ?_) #[true, true, false, false, false, false, false, false, false, false] rfl rfl (any_of HT_.out (by kernel_rfl)) (fun _ _ _ h => h) (Or.inl ⟨by rfl, ?_⟩) ?_ ?_
              rotate_left
              · intro w'
                go_simp
                with_reducible rfl
              rotate_left
              · simp only [Act.put, List.setIfInBounds_toArray, List.set_cons_zero, List.set_cons_succ, i64_w, i32_w]
                rfl
              refine pure_ (i := 3) (N := some 51) (v := ?_) (a' := ?_) #[true, true, false, true, false, false, false, false, false, false] rfl rfl (any_of HT_.out (by kernel_rfl)) (fun _ _ _ h => h) (Or.inl ⟨by rfl, ?_⟩) ?_ ?_
              rotate_left
              · intro w'
                go_simp
                with_reducible rfl
              rotate_left
              · simp only [Act.put, List.setIfInBounds_toArray, List.set_cons_zero, List.set_cons_succ, i64_w, i32_w]
                rfl
              refine pure_ (i := 4) (N := some 52) (v := ?_) (a' := ?_) #[true, true, false, true, true, false, false, false, false, false] rfl rfl (any_of HT_.out (by kernel_rfl)) (fun _ _ _ h => h) (Or.inl ⟨by rfl, ?_⟩) ?_ ?_
              rotate_left
              · intro w'
                go_simp
                with_reducible rfl
              rotate_left
              · simp only [Act.put, List.setIfInBounds_toArray, List.set_cons_zero, List.set_cons_succ, i64_w, i32_w]
                rfl
              refine take_ (i := 2) (N := some 50) (v := ?_) (a' := ?_) #[true, true, true, true, true, false, false, false, false, false] rfl rfl (take_ofW HT_.out HW_.out (by kernel_rfl)) (fun _ _ _ h => h) (Or.inl ⟨by rfl, ?_⟩) hHeld ?_ ?_
              rotate_left
              · rintro w' ⟨s0, s1, s2, s3⟩
                go_simp
                with_reducible rfl
              rotate_left
              · simp only [Act.put, List.setIfInBounds_toArray, List.set_cons_zero, List.set_cons_succ, i64_w, i32_w]
                rfl
              refine take_ (i := 5) (N := some 53) (v := ?_) (a' := ?_) #[true, true, true, true, true, true, false, false, false, false] rfl rfl (take_ofW HT_.out HW_.out (by kernel_rfl)) (fun _ _ _ h => h) (Or.inl ⟨by rfl, ?_⟩) hHeld ?_ ?_
              rotate_left
              · rintro w' ⟨s0, s1, s2, s3⟩
                go_simp
                with_reducible rfl
              rotate_left
              · simp only [Act.put, List.setIfInBounds_toArray, List.set_cons_zero, List.set_cons_succ, i64_w, i32_w]
                rfl
              refine join_ (σ := Nat × Nat) 2 #[true, true, true, true, true, true, true, true, false, false] (fun s_ => [(7, .pointer (some ⟨s_.1, 0, none⟩)), (8, .pointer (some ⟨s_.2, 0, none⟩))]) (fun s_ w' => (w'.cell? ⟨ad179.block, ad179.off + 4, none⟩ = some (.int .i64 ((rd_T45 y176 2).f0)) ∧ w'.cell? ⟨ad179.block, ad179.off + 4 + 1, none⟩ = some (.int .i64 ((rd_T45 y176 2).f1)) ∧ w'.cell? ⟨ad179.block, ad179.off + 6, none⟩ = some (.int .i64 ((rd_T45 y176 3).f0)) ∧ w'.cell? ⟨ad179.block, ad179.off + 6 + 1, none⟩ = some (.int .i64 ((rd_T45 y176 3).f1))) ∧ (Kd.R k45 45 w' w.heap.size (fun k_ => some k_ ≠ (.slice (some ad179) y176.length co49 : Value).ownBlock ∧ k_ ≠ s_.1 ∧ k_ ≠ s_.2) (.slice Ao47 y173.length co47) y173) ∧ (Kd.R k45 45 w' w.heap.size (fun k_ => some k_ ≠ (.slice Ao47 y173.length co47 : Value).ownBlock ∧ k_ ≠ s_.1 ∧ k_ ≠ s_.2) (.slice (some ad179) y176.length co49) y176) ∧ (w'.heap[s_.1]? = some (.cells #[.int .i64 0, .int .i64 0] 45 (0, 0))) ∧ (w'.heap[s_.2]? = some (.cells #[.int .i64 0, .int .i64 0] 45 (0, 0))) ∧ (w.heap.size ≤ s_.1) ∧ (w.heap.size ≤ s_.1) ∧ (s_.2 ≠ s_.1) ∧ (s_.1 ≠ s_.2) ∧ (w.heap.size ≤ s_.2) ∧ (w.heap.size ≤ s_.2) ∧ (Below w.heap.size w w')) ?_ ?_
              rotate_left
              · intro hCont
                refine two_ (i := 6) (j := 7) (Ni := some 7) (Nj := some 8) #[true, true, true, true, true, true, true, false, false, false] #[true, true, true, true, true, true, false, true, false, false] rfl rfl rfl rfl (two_of HT_.out (by kernel_rfl)) (by decide) (by decide) (fun K hK => ?_) (fun K hK => ?_)
                · skip
                  refine box_step ?hg (N := 7) ?hd (cs := #[.int .i64 0, .int .i64 0]) (t := 45) ?hr ?_; (case hd => rfl); (case hg => rfl); (case hr => first | (go_simp; done) | (go_simp; rfl))
                  intro gb181 hg w50 hbox hb
                  have HS0_ := (hb.cell (World.block_lt_of_cell? _ _ (hHeld.1))).trans (hHeld.1)
                  have HS1_ := (hb.cell (World.block_lt_of_cell? _ _ (hHeld.2.1))).trans (hHeld.2.1)
                  have HS2_ := (hb.cell (World.block_lt_of_cell? _ _ (hHeld.2.2.1))).trans (hHeld.2.2.1)
                  have HS3_ := (hb.cell (World.block_lt_of_cell? _ _ (hHeld.2.2.2))).trans (hHeld.2.2.2)
                  have n0_ := Aside0.mk (Kd.R_below (Kd.R_elderB (by (with_reducible repeat (first | apply Kd.R_alloc | apply Kd.R_drewN | apply Kd.R_drew)); exact HO175.out) gb181 (Nat.le_of_eq hg.symm)) hb)
                  have n1_ := Aside0.mk (Kd.R_below (Kd.R_elderB (by (with_reducible repeat (first | apply Kd.R_alloc | apply Kd.R_drewN | apply Kd.R_drew)); exact HO178.out) gb181 (Nat.le_of_eq hg.symm)) hb)
                  have n2_ := Aside0.mk (below_step (by repeat (first | (with_reducible first | exact HB.out | apply below_alloc | apply pw_below_drewN | apply below_drew1) | exact HB.out)) hb)
                  have n3_ := Aside0.mk (hbox)
                  have n4_ := Aside0.mk ((by rw [hg]; exact (below_size (by repeat (first | (with_reducible first | exact HB.out | apply below_alloc | apply pw_below_drewN | apply below_drew1) | exact HB.out))) : w.heap.size ≤ gb181))
                  have n5_ := Aside0.mk ((by rw [hg]; exact (below_size (by repeat (first | (with_reducible first | exact HB.out | apply below_alloc | apply pw_below_drewN | apply below_drew1) | exact HB.out))) : w.heap.size ≤ gb181))
                  clear HO175
                  clear HO178
                  clear HB
                  have HO175 := n0_
                  have HO178 := n1_
                  have HB := n2_
                  have BK181 := n3_
                  have GW181 := n4_
                  have GE181 := n5_
                  clear n0_ n1_ n2_ n3_ n4_ n5_
                  clear hb hbox hg
                  refine hK.out _ _ ⟨HS0_, HS1_, HS2_, HS3_⟩ (fun hHeld => ?_)
                  clear hK K
                  refine norm_ (a' := ?_) ?_ ?_
                  rotate_left
                  · show Act.put _ (some 7) _ = _
                    simp only [Act.put, List.setIfInBounds_toArray, List.set_cons_zero, List.set_cons_succ, i64_w, i32_w]
                    rfl
                  refine one_ (i := 7) (N := some 8) #[true, true, true, true, true, true, true, true, false, false] rfl rfl (one_of HT_.out (by kernel_rfl)) (by decide) (fun K hK => ?_)
                  refine box_step ?hg (N := 8) ?hd (cs := #[.int .i64 0, .int .i64 0]) (t := 45) ?hr ?_; (case hd => rfl); (case hg => rfl); (case hr => first | (go_simp; done) | (go_simp; rfl))
                  intro gb182 hg w51 hbox hb
                  have HS0_ := (hb.cell (World.block_lt_of_cell? _ _ (hHeld.1))).trans (hHeld.1)
                  have HS1_ := (hb.cell (World.block_lt_of_cell? _ _ (hHeld.2.1))).trans (hHeld.2.1)
                  have HS2_ := (hb.cell (World.block_lt_of_cell? _ _ (hHeld.2.2.1))).trans (hHeld.2.2.1)
                  have HS3_ := (hb.cell (World.block_lt_of_cell? _ _ (hHeld.2.2.2))).trans (hHeld.2.2.2)
                  have n0_ := Aside0.mk (Kd.R_below (Kd.R_elderB (by (with_reducible repeat (first | apply Kd.R_alloc | apply Kd.R_drewN | apply Kd.R_drew)); exact HO175.out) gb182 (Nat.le_of_eq hg.symm)) hb)
                  have n1_ := Aside0.mk (Kd.R_below (Kd.R_elderB (by (with_reducible repeat (first | apply Kd.R_alloc | apply Kd.R_drewN | apply Kd.R_drew)); exact HO178.out) gb182 (Nat.le_of_eq hg.symm)) hb)
                  have n2_ := Aside0.mk (blk_below (g := gb181) (o := .cells #[.int .i64 0, .int .i64 0] 45 (0, 0)) (by (with_reducible repeat (first | refine blk_drewN ?_ _ | refine blk_drew ?_ | refine blk_alloc ?_ _)); exact BK181.out) hb)
                  have n3_ := Aside0.mk (below_step (by repeat (first | (with_reducible first | exact HB.out | apply below_alloc | apply pw_below_drewN | apply below_drew1 | refine below_set ?_ GE181.out) | exact HB.out)) hb)
                  have n4_ := Aside0.mk (hbox)
                  have n5_ := Aside0.mk ((by rw [hg]; exact (below_size (by repeat (first | (with_reducible first | exact HB.out | apply below_alloc | apply pw_below_drewN | apply below_drew1 | refine below_set ?_ GE181.out) | exact HB.out))) : w.heap.size ≤ gb182))
                  have n6_ := Aside0.mk ((by rw [hg]; exact (below_size (by repeat (first | (with_reducible first | exact HB.out | apply below_alloc | apply pw_below_drewN | apply below_drew1 | refine below_set ?_ GE181.out) | exact HB.out))) : w.heap.size ≤ gb182))
                  have n7_ := Aside0.mk ((by rw [hg]; exact Nat.ne_of_lt (blk_lt (g := gb181) (o := .cells #[.int .i64 0, .int .i64 0] 45 (0, 0)) (by (with_reducible repeat (first | refine blk_drewN ?_ _ | refine blk_drew ?_ | refine blk_alloc ?_ _)); exact BK181.out)) : gb181 ≠ gb182))
                  have n8_ := Aside0.mk ((by rw [hg]; exact Nat.ne_of_gt (blk_lt (g := gb181) (o := .cells #[.int .i64 0, .int .i64 0] 45 (0, 0)) (by (with_reducible repeat (first | refine blk_drewN ?_ _ | refine blk_drew ?_ | refine blk_alloc ?_ _)); exact BK181.out)) : gb182 ≠ gb181))
                  clear HO175
                  clear HO178
                  clear BK181
                  clear HB
                  have HO175 := n0_
                  have HO178 := n1_
                  have BK181 := n2_
                  have HB := n3_
                  have BK182 := n4_
                  have GW182 := n5_
                  have GE182 := n6_
                  have NB181_182 := n7_
                  have NB182_181 := n8_
                  clear n0_ n1_ n2_ n3_ n4_ n5_ n6_ n7_ n8_
                  clear hb hbox hg
                  refine hK.out _ _ ⟨HS0_, HS1_, HS2_, HS3_⟩ (fun hHeld => ?_)
                  clear hK K
                  refine norm_ (a' := ?_) ?_ ?_
                  rotate_left
                  · show Act.put _ (some 8) _ = _
                    simp only [Act.put, List.setIfInBounds_toArray, List.set_cons_zero, List.set_cons_succ, i64_w, i32_w]
                    rfl
                  exact norm_ (by simp only [putAll, Act.put, List.setIfInBounds_toArray, List.set_cons_zero, List.set_cons_succ]) (hCont (gb181, gb182) _ ⟨hHeld, (by (with_reducible repeat (first | apply Kd.R_alloc | apply Kd.R_drewN | apply Kd.R_drew)); exact Kd.R_mono HO175.out (fun _ hk => ⟨hk.1.1.2, ⟨hk.1.2, hk.2⟩⟩)), (by (with_reducible repeat (first | apply Kd.R_alloc | apply Kd.R_drewN | apply Kd.R_drew)); exact Kd.R_mono HO178.out (fun _ hk => ⟨hk.1.1, ⟨hk.1.2, hk.2⟩⟩)), (by (with_reducible repeat (first | refine blk_drewN ?_ _ | refine blk_drew ?_ | refine blk_alloc ?_ _)); exact BK181.out), (by (with_reducible repeat (first | refine blk_drewN ?_ _ | refine blk_drew ?_ | refine blk_alloc ?_ _)); exact BK182.out), GW181.out, GE181.out, NB182_181.out, NB181_182.out, GW182.out, GE182.out, (by repeat (first | (with_reducible first | exact HB.out | apply below_alloc | apply pw_below_drewN | apply below_drew1 | refine below_set ?_ GE181.out | refine below_set ?_ GE182.out) | exact HB.out))⟩)
                · skip
                  refine box_step ?hg (N := 8) ?hd (cs := #[.int .i64 0, .int .i64 0]) (t := 45) ?hr ?_; (case hd => rfl); (case hg => rfl); (case hr => first | (go_simp; done) | (go_simp; rfl))
                  intro gb182 hg w50 hbox hb
                  have HS0_ := (hb.cell (World.block_lt_of_cell? _ _ (hHeld.1))).trans (hHeld.1)
                  have HS1_ := (hb.cell (World.block_lt_of_cell? _ _ (hHeld.2.1))).trans (hHeld.2.1)
                  have HS2_ := (hb.cell (World.block_lt_of_cell? _ _ (hHeld.2.2.1))).trans (hHeld.2.2.1)
                  have HS3_ := (hb.cell (World.block_lt_of_cell? _ _ (hHeld.2.2.2))).trans (hHeld.2.2.2)
                  have n0_ := Aside0.mk (Kd.R_below (Kd.R_elderB (by (with_reducible repeat (first | apply Kd.R_alloc | apply Kd.R_drewN | apply Kd.R_drew)); exact HO175.out) gb182 (Nat.le_of_eq hg.symm)) hb)
                  have n1_ := Aside0.mk (Kd.R_below (Kd.R_elderB (by (with_reducible repeat (first | apply Kd.R_alloc | apply Kd.R_drewN | apply Kd.R_drew)); exact HO178.out) gb182 (Nat.le_of_eq hg.symm)) hb)
                  have n2_ := Aside0.mk (below_step (by repeat (first | (with_reducible first | exact HB.out | apply below_alloc | apply pw_below_drewN | apply below_drew1) | exact HB.out)) hb)
                  have n3_ := Aside0.mk (hbox)
                  have n4_ := Aside0.mk ((by rw [hg]; exact (below_size (by repeat (first | (with_reducible first | exact HB.out | apply below_alloc | apply pw_below_drewN | apply below_drew1) | exact HB.out))) : w.heap.size ≤ gb182))
                  have n5_ := Aside0.mk ((by rw [hg]; exact (below_size (by repeat (first | (with_reducible first | exact HB.out | apply below_alloc | apply pw_below_drewN | apply below_drew1) | exact HB.out))) : w.heap.size ≤ gb182))
                  clear HO175
                  clear HO178
                  clear HB
                  have HO175 := n0_
                  have HO178 := n1_
                  have HB := n2_
                  have BK182 := n3_
                  have GW182 := n4_
                  have GE182 := n5_
                  clear n0_ n1_ n2_ n3_ n4_ n5_
                  clear hb hbox hg
                  refine hK.out _ _ ⟨HS0_, HS1_, HS2_, HS3_⟩ (fun hHeld => ?_)
                  clear hK K
                  refine norm_ (a' := ?_) ?_ ?_
                  rotate_left
                  · show Act.put _ (some 8) _ = _
                    simp only [Act.put, List.setIfInBounds_toArray, List.set_cons_zero, List.set_cons_succ, i64_w, i32_w]
                    rfl
                  refine one_ (i := 6) (N := some 7) #[true, true, true, true, true, true, true, true, false, false] rfl rfl (one_of HT_.out (by kernel_rfl)) (by decide) (fun K hK => ?_)
                  refine box_step ?hg (N := 7) ?hd (cs := #[.int .i64 0, .int .i64 0]) (t := 45) ?hr ?_; (case hd => rfl); (case hg => rfl); (case hr => first | (go_simp; done) | (go_simp; rfl))
                  intro gb181 hg w51 hbox hb
                  have HS0_ := (hb.cell (World.block_lt_of_cell? _ _ (hHeld.1))).trans (hHeld.1)
                  have HS1_ := (hb.cell (World.block_lt_of_cell? _ _ (hHeld.2.1))).trans (hHeld.2.1)
                  have HS2_ := (hb.cell (World.block_lt_of_cell? _ _ (hHeld.2.2.1))).trans (hHeld.2.2.1)
                  have HS3_ := (hb.cell (World.block_lt_of_cell? _ _ (hHeld.2.2.2))).trans (hHeld.2.2.2)
                  have n0_ := Aside0.mk (Kd.R_below (Kd.R_elderB (by (with_reducible repeat (first | apply Kd.R_alloc | apply Kd.R_drewN | apply Kd.R_drew)); exact HO175.out) gb181 (Nat.le_of_eq hg.symm)) hb)
                  have n1_ := Aside0.mk (Kd.R_below (Kd.R_elderB (by (with_reducible repeat (first | apply Kd.R_alloc | apply Kd.R_drewN | apply Kd.R_drew)); exact HO178.out) gb181 (Nat.le_of_eq hg.symm)) hb)
                  have n2_ := Aside0.mk (blk_below (g := gb182) (o := .cells #[.int .i64 0, .int .i64 0] 45 (0, 0)) (by (with_reducible repeat (first | refine blk_drewN ?_ _ | refine blk_drew ?_ | refine blk_alloc ?_ _)); exact BK182.out) hb)
                  have n3_ := Aside0.mk (below_step (by repeat (first | (with_reducible first | exact HB.out | apply below_alloc | apply pw_below_drewN | apply below_drew1 | refine below_set ?_ GE182.out) | exact HB.out)) hb)
                  have n4_ := Aside0.mk (hbox)
                  have n5_ := Aside0.mk ((by rw [hg]; exact (below_size (by repeat (first | (with_reducible first | exact HB.out | apply below_alloc | apply pw_below_drewN | apply below_drew1 | refine below_set ?_ GE182.out) | exact HB.out))) : w.heap.size ≤ gb181))
                  have n6_ := Aside0.mk ((by rw [hg]; exact (below_size (by repeat (first | (with_reducible first | exact HB.out | apply below_alloc | apply pw_below_drewN | apply below_drew1 | refine below_set ?_ GE182.out) | exact HB.out))) : w.heap.size ≤ gb181))
                  have n7_ := Aside0.mk ((by rw [hg]; exact Nat.ne_of_lt (blk_lt (g := gb182) (o := .cells #[.int .i64 0, .int .i64 0] 45 (0, 0)) (by (with_reducible repeat (first | refine blk_drewN ?_ _ | refine blk_drew ?_ | refine blk_alloc ?_ _)); exact BK182.out)) : gb182 ≠ gb181))
                  have n8_ := Aside0.mk ((by rw [hg]; exact Nat.ne_of_gt (blk_lt (g := gb182) (o := .cells #[.int .i64 0, .int .i64 0] 45 (0, 0)) (by (with_reducible repeat (first | refine blk_drewN ?_ _ | refine blk_drew ?_ | refine blk_alloc ?_ _)); exact BK182.out)) : gb181 ≠ gb182))
                  clear HO175
                  clear HO178
                  clear BK182
                  clear HB
                  have HO175 := n0_
                  have HO178 := n1_
                  have BK182 := n2_
                  have HB := n3_
                  have BK181 := n4_
                  have GW181 := n5_
                  have GE181 := n6_
                  have NB182_181 := n7_
                  have NB181_182 := n8_
                  clear n0_ n1_ n2_ n3_ n4_ n5_ n6_ n7_ n8_
                  clear hb hbox hg
                  refine hK.out _ _ ⟨HS0_, HS1_, HS2_, HS3_⟩ (fun hHeld => ?_)
                  clear hK K
                  refine norm_ (a' := ?_) ?_ ?_
                  rotate_left
                  · show Act.put _ (some 7) _ = _
                    simp only [Act.put, List.setIfInBounds_toArray, List.set_cons_zero, List.set_cons_succ, i64_w, i32_w]
                    rfl
                  exact norm_ (by simp only [putAll, Act.put, List.setIfInBounds_toArray, List.set_cons_zero, List.set_cons_succ]) (hCont (gb181, gb182) _ ⟨hHeld, (by (with_reducible repeat (first | apply Kd.R_alloc | apply Kd.R_drewN | apply Kd.R_drew)); exact Kd.R_mono HO175.out (fun _ hk => ⟨hk.1.1.2, ⟨hk.2, hk.1.2⟩⟩)), (by (with_reducible repeat (first | apply Kd.R_alloc | apply Kd.R_drewN | apply Kd.R_drew)); exact Kd.R_mono HO178.out (fun _ hk => ⟨hk.1.1, ⟨hk.2, hk.1.2⟩⟩)), (by (with_reducible repeat (first | refine blk_drewN ?_ _ | refine blk_drew ?_ | refine blk_alloc ?_ _)); exact BK181.out), (by (with_reducible repeat (first | refine blk_drewN ?_ _ | refine blk_drew ?_ | refine blk_alloc ?_ _)); exact BK182.out), GW181.out, GE181.out, NB182_181.out, NB181_182.out, GW182.out, GE182.out, (by repeat (first | (with_reducible first | exact HB.out | apply below_alloc | apply pw_below_drewN | apply below_drew1 | refine below_set ?_ GE182.out | refine below_set ?_ GE181.out) | exact HB.out))⟩)
              rintro ⟨gb181, gb182⟩ w52 ⟨hS_, h0_, h1_, h2_, h3_, h4_, h5_, h6_, h7_, h8_, h9_, h10_⟩
              have n0_ : Aside0 (Kd.R k45 45 w52 w.heap.size (fun k_ => some k_ ≠ (.slice (some ad179) y176.length co49 : Value).ownBlock ∧ k_ ≠ gb181 ∧ k_ ≠ gb182) (.slice Ao47 y173.length co47) y173) := ⟨h0_⟩
              have n1_ : Aside0 (Kd.R k45 45 w52 w.heap.size (fun k_ => some k_ ≠ (.slice Ao47 y173.length co47 : Value).ownBlock ∧ k_ ≠ gb181 ∧ k_ ≠ gb182) (.slice (some ad179) y176.length co49) y176) := ⟨h1_⟩
              have n2_ : Aside0 (w52.heap[gb181]? = some (.cells #[.int .i64 0, .int .i64 0] 45 (0, 0))) := ⟨h2_⟩
              have n3_ : Aside0 (w52.heap[gb182]? = some (.cells #[.int .i64 0, .int .i64 0] 45 (0, 0))) := ⟨h3_⟩
              have n4_ : Aside0 (w.heap.size ≤ gb181) := ⟨h4_⟩
              have n5_ : Aside0 (w.heap.size ≤ gb181) := ⟨h5_⟩
              have n6_ : Aside0 (gb182 ≠ gb181) := ⟨h6_⟩
              have n7_ : Aside0 (gb181 ≠ gb182) := ⟨h7_⟩
              have n8_ : Aside0 (w.heap.size ≤ gb182) := ⟨h8_⟩
              have n9_ : Aside0 (w.heap.size ≤ gb182) := ⟨h9_⟩
              have n10_ : Aside0 (Below w.heap.size w w52) := ⟨h10_⟩
              clear HO175
              clear HO178
              clear HB
              clear h0_ h1_ h2_ h3_ h4_ h5_ h6_ h7_ h8_ h9_ h10_
              have HO175 := n0_
              have HO178 := n1_
              have BK181 := n2_
              have BK182 := n3_
              have GW181 := n4_
              have GE181 := n5_
              have NB182_181 := n6_
              have NB181_182 := n7_
              have GW182 := n8_
              have GE182 := n9_
              have HB := n10_
              clear n0_ n1_ n2_ n3_ n4_ n5_ n6_ n7_ n8_ n9_ n10_
              have hHeld : w52.cell? ⟨ad179.block, ad179.off + 4, none⟩ = some (.int .i64 ((rd_T45 y176 2).f0)) ∧ w52.cell? ⟨ad179.block, ad179.off + 4 + 1, none⟩ = some (.int .i64 ((rd_T45 y176 2).f1)) ∧ w52.cell? ⟨ad179.block, ad179.off + 6, none⟩ = some (.int .i64 ((rd_T45 y176 3).f0)) ∧ w52.cell? ⟨ad179.block, ad179.off + 6 + 1, none⟩ = some (.int .i64 ((rd_T45 y176 3).f1)) := hS_
              refine norm_ (a' := ?_) ?_ ?_
              rotate_left
              · simp only [putAll, Act.put, List.setIfInBounds_toArray, List.set_cons_zero, List.set_cons_succ]
                rfl
              refine one_ (i := 8) (N := none) #[true, true, true, true, true, true, true, true, true, false] rfl rfl (one_of HT_.out (by kernel_rfl)) (by decide) (fun K hK => ?_)
              have hs53 : w52.cell? ⟨gb181, 0, none⟩ = some (.int .i64 0) := (blk_cell BK181.out 0).trans rfl
              have hfs53 := blk_frozen BK181.out 0
              have hns53_1 := NB182_181.out
              have hms53_1 := NB181_182.out
              have hs54 : w52.cell? ⟨gb181, 1, none⟩ = some (.int .i64 0) := (blk_cell BK181.out 1).trans rfl
              have hfs54 := blk_frozen BK181.out 1
              have hns54_1 := NB182_181.out
              have hms54_1 := NB181_182.out
              refine skip_ (w1 := ?_) (by rfl) rfl ?_ ?_
              rotate_left
              · go_simp
                rfl
              refine hK.out _ _ ⟨((cell_far (p := ⟨gb181, _, none⟩) (by first | exact Kd.own_blk (Kd.R_away HO178.out (fun _ hk => hk.2.1)) | (rw [add_block]; exact Kd.own_blk (Kd.R_away HO178.out (fun _ hk => hk.2.1))) | (show (Addr.add _ _).block ≠ _; rw [add_block]; exact Kd.own_blk (Kd.R_away HO178.out (fun _ hk => hk.2.1))) | (dsimp only; exact Kd.own_blk (Kd.R_away HO178.out (fun _ hk => hk.2.1)))) _).trans (((cell_far (p := ⟨gb181, _, none⟩) (by first | exact Kd.own_blk (Kd.R_away HO178.out (fun _ hk => hk.2.1)) | (rw [add_block]; exact Kd.own_blk (Kd.R_away HO178.out (fun _ hk => hk.2.1))) | (show (Addr.add _ _).block ≠ _; rw [add_block]; exact Kd.own_blk (Kd.R_away HO178.out (fun _ hk => hk.2.1))) | (dsimp only; exact Kd.own_blk (Kd.R_away HO178.out (fun _ hk => hk.2.1)))) _).trans (hHeld.1)))), ((cell_far (p := ⟨gb181, _, none⟩) (by first | exact Kd.own_blk (Kd.R_away HO178.out (fun _ hk => hk.2.1)) | (rw [add_block]; exact Kd.own_blk (Kd.R_away HO178.out (fun _ hk => hk.2.1))) | (show (Addr.add _ _).block ≠ _; rw [add_block]; exact Kd.own_blk (Kd.R_away HO178.out (fun _ hk => hk.2.1))) | (dsimp only; exact Kd.own_blk (Kd.R_away HO178.out (fun _ hk => hk.2.1)))) _).trans (((cell_far (p := ⟨gb181, _, none⟩) (by first | exact Kd.own_blk (Kd.R_away HO178.out (fun _ hk => hk.2.1)) | (rw [add_block]; exact Kd.own_blk (Kd.R_away HO178.out (fun _ hk => hk.2.1))) | (show (Addr.add _ _).block ≠ _; rw [add_block]; exact Kd.own_blk (Kd.R_away HO178.out (fun _ hk => hk.2.1))) | (dsimp only; exact Kd.own_blk (Kd.R_away HO178.out (fun _ hk => hk.2.1)))) _).trans (hHeld.2.1)))), ((cell_far (p := ⟨gb181, _, none⟩) (by first | exact Kd.own_blk (Kd.R_away HO178.out (fun _ hk => hk.2.1)) | (rw [add_block]; exact Kd.own_blk (Kd.R_away HO178.out (fun _ hk => hk.2.1))) | (show (Addr.add _ _).block ≠ _; rw [add_block]; exact Kd.own_blk (Kd.R_away HO178.out (fun _ hk => hk.2.1))) | (dsimp only; exact Kd.own_blk (Kd.R_away HO178.out (fun _ hk => hk.2.1)))) _).trans (((cell_far (p := ⟨gb181, _, none⟩) (by first | exact Kd.own_blk (Kd.R_away HO178.out (fun _ hk => hk.2.1)) | (rw [add_block]; exact Kd.own_blk (Kd.R_away HO178.out (fun _ hk => hk.2.1))) | (show (Addr.add _ _).block ≠ _; rw [add_block]; exact Kd.own_blk (Kd.R_away HO178.out (fun _ hk => hk.2.1))) | (dsimp only; exact Kd.own_blk (Kd.R_away HO178.out (fun _ hk => hk.2.1)))) _).trans (hHeld.2.2.1)))), ((cell_far (p := ⟨gb181, _, none⟩) (by first | exact Kd.own_blk (Kd.R_away HO178.out (fun _ hk => hk.2.1)) | (rw [add_block]; exact Kd.own_blk (Kd.R_away HO178.out (fun _ hk => hk.2.1))) | (show (Addr.add _ _).block ≠ _; rw [add_block]; exact Kd.own_blk (Kd.R_away HO178.out (fun _ hk => hk.2.1))) | (dsimp only; exact Kd.own_blk (Kd.R_away HO178.out (fun _ hk => hk.2.1)))) _).trans (((cell_far (p := ⟨gb181, _, none⟩) (by first | exact Kd.own_blk (Kd.R_away HO178.out (fun _ hk => hk.2.1)) | (rw [add_block]; exact Kd.own_blk (Kd.R_away HO178.out (fun _ hk => hk.2.1))) | (show (Addr.add _ _).block ≠ _; rw [add_block]; exact Kd.own_blk (Kd.R_away HO178.out (fun _ hk => hk.2.1))) | (dsimp only; exact Kd.own_blk (Kd.R_away HO178.out (fun _ hk => hk.2.1)))) _).trans (hHeld.2.2.2))))⟩ (fun hHeld => ?_)
              clear hK K
              refine one_ (i := 9) (N := none) #[true, true, true, true, true, true, true, true, true, true] rfl rfl (one_of HT_.out (by kernel_rfl)) (by decide) (fun K hK => ?_)
              have hs55 : w52.cell? ⟨gb182, 0, none⟩ = some (.int .i64 0) := (blk_cell BK182.out 0).trans rfl
              have hfs55 := blk_frozen BK182.out 0
              have hns55_0 := NB181_182.out
              have hms55_0 := NB182_181.out
              have hs56 : w52.cell? ⟨gb182, 1, none⟩ = some (.int .i64 0) := (blk_cell BK182.out 1).trans rfl
              have hfs56 := blk_frozen BK182.out 1
              have hns56_0 := NB181_182.out
              have hms56_0 := NB182_181.out
              refine skip_ (w1 := ?_) (by rfl) rfl ?_ ?_
              rotate_left
              · go_simp
                rfl
              refine hK.out _ _ ⟨((cell_far (p := ⟨gb182, _, none⟩) (by first | exact Kd.own_blk (Kd.R_away HO178.out (fun _ hk => hk.2.2)) | (rw [add_block]; exact Kd.own_blk (Kd.R_away HO178.out (fun _ hk => hk.2.2))) | (show (Addr.add _ _).block ≠ _; rw [add_block]; exact Kd.own_blk (Kd.R_away HO178.out (fun _ hk => hk.2.2))) | (dsimp only; exact Kd.own_blk (Kd.R_away HO178.out (fun _ hk => hk.2.2)))) _).trans (((cell_far (p := ⟨gb182, _, none⟩) (by first | exact Kd.own_blk (Kd.R_away HO178.out (fun _ hk => hk.2.2)) | (rw [add_block]; exact Kd.own_blk (Kd.R_away HO178.out (fun _ hk => hk.2.2))) | (show (Addr.add _ _).block ≠ _; rw [add_block]; exact Kd.own_blk (Kd.R_away HO178.out (fun _ hk => hk.2.2))) | (dsimp only; exact Kd.own_blk (Kd.R_away HO178.out (fun _ hk => hk.2.2)))) _).trans (hHeld.1)))), ((cell_far (p := ⟨gb182, _, none⟩) (by first | exact Kd.own_blk (Kd.R_away HO178.out (fun _ hk => hk.2.2)) | (rw [add_block]; exact Kd.own_blk (Kd.R_away HO178.out (fun _ hk => hk.2.2))) | (show (Addr.add _ _).block ≠ _; rw [add_block]; exact Kd.own_blk (Kd.R_away HO178.out (fun _ hk => hk.2.2))) | (dsimp only; exact Kd.own_blk (Kd.R_away HO178.out (fun _ hk => hk.2.2)))) _).trans (((cell_far (p := ⟨gb182, _, none⟩) (by first | exact Kd.own_blk (Kd.R_away HO178.out (fun _ hk => hk.2.2)) | (rw [add_block]; exact Kd.own_blk (Kd.R_away HO178.out (fun _ hk => hk.2.2))) | (show (Addr.add _ _).block ≠ _; rw [add_block]; exact Kd.own_blk (Kd.R_away HO178.out (fun _ hk => hk.2.2))) | (dsimp only; exact Kd.own_blk (Kd.R_away HO178.out (fun _ hk => hk.2.2)))) _).trans (hHeld.2.1)))), ((cell_far (p := ⟨gb182, _, none⟩) (by first | exact Kd.own_blk (Kd.R_away HO178.out (fun _ hk => hk.2.2)) | (rw [add_block]; exact Kd.own_blk (Kd.R_away HO178.out (fun _ hk => hk.2.2))) | (show (Addr.add _ _).block ≠ _; rw [add_block]; exact Kd.own_blk (Kd.R_away HO178.out (fun _ hk => hk.2.2))) | (dsimp only; exact Kd.own_blk (Kd.R_away HO178.out (fun _ hk => hk.2.2)))) _).trans (((cell_far (p := ⟨gb182, _, none⟩) (by first | exact Kd.own_blk (Kd.R_away HO178.out (fun _ hk => hk.2.2)) | (rw [add_block]; exact Kd.own_blk (Kd.R_away HO178.out (fun _ hk => hk.2.2))) | (show (Addr.add _ _).block ≠ _; rw [add_block]; exact Kd.own_blk (Kd.R_away HO178.out (fun _ hk => hk.2.2))) | (dsimp only; exact Kd.own_blk (Kd.R_away HO178.out (fun _ hk => hk.2.2)))) _).trans (hHeld.2.2.1)))), ((cell_far (p := ⟨gb182, _, none⟩) (by first | exact Kd.own_blk (Kd.R_away HO178.out (fun _ hk => hk.2.2)) | (rw [add_block]; exact Kd.own_blk (Kd.R_away HO178.out (fun _ hk => hk.2.2))) | (show (Addr.add _ _).block ≠ _; rw [add_block]; exact Kd.own_blk (Kd.R_away HO178.out (fun _ hk => hk.2.2))) | (dsimp only; exact Kd.own_blk (Kd.R_away HO178.out (fun _ hk => hk.2.2)))) _).trans (((cell_far (p := ⟨gb182, _, none⟩) (by first | exact Kd.own_blk (Kd.R_away HO178.out (fun _ hk => hk.2.2)) | (rw [add_block]; exact Kd.own_blk (Kd.R_away HO178.out (fun _ hk => hk.2.2))) | (show (Addr.add _ _).block ≠ _; rw [add_block]; exact Kd.own_blk (Kd.R_away HO178.out (fun _ hk => hk.2.2))) | (dsimp only; exact Kd.own_blk (Kd.R_away HO178.out (fun _ hk => hk.2.2)))) _).trans (hHeld.2.2.2))))⟩ (fun hHeld => ?_)
              clear hK K
              refine done_ (done_of HT_.out (by kernel_rfl)) ?_
              go_upto_block 0 with (fail)
              go_cut [] (fun wc => ∃ (kq : Nat) (x182000_42 : Int) (x182001_42 : Int) (x183000_42 : Int) (x183001_42 : Int), Aside0 (clock_Read.j1 kq y176 x182000_42 x182001_42 x183000_42 x183001_42 = some (r1, r2)) ∧ Aside0 (kq ≤ kj2) ∧ Aside0 (Kd.R k45 45 wc w.heap.size (fun k_ => k_ ≠ gb181 ∧ k_ ≠ gb182) (.slice (some ad179) y176.length co49) y176) ∧ Aside0 (wc.heap[gb181]? = some (.cells #[.int .i64 x182000_42, .int .i64 x182001_42] 45 (0, 0))) ∧ Aside0 (wc.heap[gb182]? = some (.cells #[.int .i64 x183000_42, .int .i64 x183001_42] 45 (0, 0))) ∧ Aside0 (Below w.heap.size w wc))
              case first =>
                have H := HC43.out
                clear HC43
                by_cases c57 : t157.toList = ([58] : List UInt8)
                · rw [if_pos c57] at H
                  have c57b0 : (t157.toList == ([58] : List UInt8)) = true := beq_iff_eq.mpr c57
                  have c57b1 : (t157.toList != ([58] : List UInt8)) = false := bne_eq_false_iff_eq.mpr c57
                  clear c57
                  (first | rw [c57b0] | (simp only [i64_w, i32_w]; rw [c57b0]) | skip)
                  have H' := Aside0.mk H
                  clear H
                  have hnb58 := NB181_182.out
                  have hnc58 := NB182_181.out
                  have hcz59_0 : w52.cell? ⟨gb181, 0, none⟩ = some (.int .i64 0) := (blk_cell BK181.out 0).trans rfl
                  have hcz59_1 : w52.cell? ⟨gb181, 1, none⟩ = some (.int .i64 0) := (blk_cell BK181.out 1).trans rfl
                  have hfz59_0 := blk_frozen BK181.out 0
                  have hfz59_1 := blk_frozen BK181.out 1
                  have hcz60_0 : w52.cell? ⟨gb182, 0, none⟩ = some (.int .i64 0) := (blk_cell BK182.out 0).trans rfl
                  have hcz60_1 : w52.cell? ⟨gb182, 1, none⟩ = some (.int .i64 0) := (blk_cell BK182.out 1).trans rfl
                  have hfz60_0 := blk_frozen BK182.out 0
                  have hfz60_1 := blk_frozen BK182.out 1
                  go_wp2
                  go_meet
                  case rel => exact ⟨_, (0), (2), (0), (6), H', ⟨by have := HJ2.out; first | omega | exact Nat.le_refl _⟩, ⟨by (with_reducible repeat (first | apply Kd.R_alloc | apply Kd.R_drewN | apply Kd.R_drew)); exact Kd.R_mono (Kd.R_far (p := ⟨gb182, 1, none⟩) (Kd.R_far (p := ⟨gb182, 0, none⟩) (Kd.R_far (p := ⟨gb181, 1, none⟩) (Kd.R_far (p := ⟨gb181, 0, none⟩) (Kd.R_far (p := ⟨gb182, 1, none⟩) (Kd.R_far (p := ⟨gb182, 0, none⟩) (Kd.R_far (p := ⟨gb181, 1, none⟩) (Kd.R_far (p := ⟨gb181, 0, none⟩) (Kd.R_mono (Kd.R_mono HO178.out (fun k_ hk => (⟨hk, hk.2.1⟩ : _ ∧ k_ ≠ gb181))) (fun k_ hk => (⟨hk, hk.1.2.2⟩ : _ ∧ k_ ≠ gb182))) (fun _ hk => hk.1.2) (.int .i64 ((rd_T45 y176 2).f0))) (fun _ hk => hk.1.2) (.int .i64 ((rd_T45 y176 2).f1))) (fun _ hk => hk.2) (.int .i64 ((rd_T45 y176 3).f0))) (fun _ hk => hk.2) (.int .i64 ((rd_T45 y176 3).f1))) (fun _ hk => hk.1.2) (.int .i64 0)) (fun _ hk => hk.1.2) (.int .i64 2)) (fun _ hk => hk.2) (.int .i64 0)) (fun _ hk => hk.2) (.int .i64 6)) (fun _ hk => ⟨hk.1.1.2.1, hk.1.1.2.2⟩)⟩, ⟨by (with_reducible repeat (first | refine blk_drewN ?_ _ | refine blk_drew ?_ | refine blk_alloc ?_ _)); refine blk_far ?_ NB181_182.out _; (with_reducible repeat (first | refine blk_drewN ?_ _ | refine blk_drew ?_ | refine blk_alloc ?_ _)); refine blk_far ?_ NB181_182.out _; (with_reducible repeat (first | refine blk_drewN ?_ _ | refine blk_drew ?_ | refine blk_alloc ?_ _)); refine blk_put (cs := #[.int .i64 0, .int .i64 ((rd_T45 y176 2).f1)]) ?_ 1 _ rfl; (with_reducible repeat (first | refine blk_drewN ?_ _ | refine blk_drew ?_ | refine blk_alloc ?_ _)); refine blk_put (cs := #[.int .i64 ((rd_T45 y176 2).f0), .int .i64 ((rd_T45 y176 2).f1)]) ?_ 0 _ rfl; (with_reducible repeat (first | refine blk_drewN ?_ _ | refine blk_drew ?_ | refine blk_alloc ?_ _)); refine blk_far ?_ NB181_182.out _; (with_reducible repeat (first | refine blk_drewN ?_ _ | refine blk_drew ?_ | refine blk_alloc ?_ _)); refine blk_far ?_ NB181_182.out _; (with_reducible repeat (first | refine blk_drewN ?_ _ | refine blk_drew ?_ | refine blk_alloc ?_ _)); refine blk_put (cs := #[.int .i64 ((rd_T45 y176 2).f0), .int .i64 0]) ?_ 1 _ rfl; (with_reducible repeat (first | refine blk_drewN ?_ _ | refine blk_drew ?_ | refine blk_alloc ?_ _)); refine blk_put (cs := #[.int .i64 0, .int .i64 0]) ?_ 0 _ rfl; (with_reducible repeat (first | refine blk_drewN ?_ _ | refine blk_drew ?_ | refine blk_alloc ?_ _)); exact BK181.out⟩, ⟨by (with_reducible repeat (first | refine blk_drewN ?_ _ | refine blk_drew ?_ | refine blk_alloc ?_ _)); refine blk_put (cs := #[.int .i64 0, .int .i64 ((rd_T45 y176 3).f1)]) ?_ 1 _ rfl; (with_reducible repeat (first | refine blk_drewN ?_ _ | refine blk_drew ?_ | refine blk_alloc ?_ _)); refine blk_put (cs := #[.int .i64 ((rd_T45 y176 3).f0), .int .i64 ((rd_T45 y176 3).f1)]) ?_ 0 _ rfl; (with_reducible repeat (first | refine blk_drewN ?_ _ | refine blk_drew ?_ | refine blk_alloc ?_ _)); refine blk_far ?_ NB182_181.out _; (with_reducible repeat (first | refine blk_drewN ?_ _ | refine blk_drew ?_ | refine blk_alloc ?_ _)); refine blk_far ?_ NB182_181.out _; (with_reducible repeat (first | refine blk_drewN ?_ _ | refine blk_drew ?_ | refine blk_alloc ?_ _)); refine blk_put (cs := #[.int .i64 ((rd_T45 y176 3).f0), .int .i64 0]) ?_ 1 _ rfl; (with_reducible repeat (first | refine blk_drewN ?_ _ | refine blk_drew ?_ | refine blk_alloc ?_ _)); refine blk_put (cs := #[.int .i64 0, .int .i64 0]) ?_ 0 _ rfl; (with_reducible repeat (first | refine blk_drewN ?_ _ | refine blk_drew ?_ | refine blk_alloc ?_ _)); refine blk_far ?_ NB182_181.out _; (with_reducible repeat (first | refine blk_drewN ?_ _ | refine blk_drew ?_ | refine blk_alloc ?_ _)); refine blk_far ?_ NB182_181.out _; (with_reducible repeat (first | refine blk_drewN ?_ _ | refine blk_drew ?_ | refine blk_alloc ?_ _)); exact BK182.out⟩, ⟨by repeat (first | (with_reducible first | exact HB.out | apply below_alloc | apply pw_below_drewN | apply below_drew1 | refine below_set ?_ GE181.out | refine below_set ?_ GE182.out) | exact HB.out)⟩⟩
                · rw [if_neg c57] at H
                  have c57b0 : (t157.toList == ([58] : List UInt8)) = false := beq_eq_false_iff_ne.mpr c57
                  have c57b1 : (t157.toList != ([58] : List UInt8)) = true := bne_iff_ne.mpr c57
                  (first | rw [c57b0] | (simp only [i64_w, i32_w]; rw [c57b0]) | skip)
                  by_cases c61 : t157.toList = ([58, 58] : List UInt8)
                  · rw [if_pos c61] at H
                    have c61b0 : (t157.toList == ([58, 58] : List UInt8)) = true := beq_iff_eq.mpr c61
                    have c61b1 : (t157.toList != ([58, 58] : List UInt8)) = false := bne_eq_false_iff_eq.mpr c61
                    clear c61
                    have H' := Aside0.mk H
                    clear H
                    have hnb62 := NB182_181.out
                    have hnc62 := NB181_182.out
                    have hcz63_0 : w52.cell? ⟨gb182, 0, none⟩ = some (.int .i64 0) := (blk_cell BK182.out 0).trans rfl
                    have hcz63_1 : w52.cell? ⟨gb182, 1, none⟩ = some (.int .i64 0) := (blk_cell BK182.out 1).trans rfl
                    have hfz63_0 := blk_frozen BK182.out 0
                    have hfz63_1 := blk_frozen BK182.out 1
                    go_wp2
                    go_meet
                    case rel => exact ⟨_, ((rd_T45 y176 2).f0), ((rd_T45 y176 2).f1), (0), (6), H', ⟨by have := HJ2.out; first | omega | exact Nat.le_refl _⟩, ⟨by (with_reducible repeat (first | apply Kd.R_alloc | apply Kd.R_drewN | apply Kd.R_drew)); exact Kd.R_mono (Kd.R_far (p := ⟨gb182, 1, none⟩) (Kd.R_far (p := ⟨gb182, 0, none⟩) (Kd.R_far (p := ⟨gb182, 1, none⟩) (Kd.R_far (p := ⟨gb182, 0, none⟩) (Kd.R_far (p := ⟨gb181, 1, none⟩) (Kd.R_far (p := ⟨gb181, 0, none⟩) (Kd.R_mono (Kd.R_mono HO178.out (fun k_ hk => (⟨hk, hk.2.1⟩ : _ ∧ k_ ≠ gb181))) (fun k_ hk => (⟨hk, hk.1.2.2⟩ : _ ∧ k_ ≠ gb182))) (fun _ hk => hk.1.2) (.int .i64 ((rd_T45 y176 2).f0))) (fun _ hk => hk.1.2) (.int .i64 ((rd_T45 y176 2).f1))) (fun _ hk => hk.2) (.int .i64 ((rd_T45 y176 3).f0))) (fun _ hk => hk.2) (.int .i64 ((rd_T45 y176 3).f1))) (fun _ hk => hk.2) (.int .i64 0)) (fun _ hk => hk.2) (.int .i64 6)) (fun _ hk => ⟨hk.1.1.2.1, hk.1.1.2.2⟩)⟩, ⟨by (with_reducible repeat (first | refine blk_drewN ?_ _ | refine blk_drew ?_ | refine blk_alloc ?_ _)); refine blk_far ?_ NB181_182.out _; (with_reducible repeat (first | refine blk_drewN ?_ _ | refine blk_drew ?_ | refine blk_alloc ?_ _)); refine blk_far ?_ NB181_182.out _; (with_reducible repeat (first | refine blk_drewN ?_ _ | refine blk_drew ?_ | refine blk_alloc ?_ _)); refine blk_far ?_ NB181_182.out _; (with_reducible repeat (first | refine blk_drewN ?_ _ | refine blk_drew ?_ | refine blk_alloc ?_ _)); refine blk_far ?_ NB181_182.out _; (with_reducible repeat (first | refine blk_drewN ?_ _ | refine blk_drew ?_ | refine blk_alloc ?_ _)); refine blk_put (cs := #[.int .i64 ((rd_T45 y176 2).f0), .int .i64 0]) ?_ 1 _ rfl; (with_reducible repeat (first | refine blk_drewN ?_ _ | refine blk_drew ?_ | refine blk_alloc ?_ _)); refine blk_put (cs := #[.int .i64 0, .int .i64 0]) ?_ 0 _ rfl; (with_reducible repeat (first | refine blk_drewN ?_ _ | refine blk_drew ?_ | refine blk_alloc ?_ _)); exact BK181.out⟩, ⟨by (with_reducible repeat (first | refine blk_drewN ?_ _ | refine blk_drew ?_ | refine blk_alloc ?_ _)); refine blk_put (cs := #[.int .i64 0, .int .i64 ((rd_T45 y176 3).f1)]) ?_ 1 _ rfl; (with_reducible repeat (first | refine blk_drewN ?_ _ | refine blk_drew ?_ | refine blk_alloc ?_ _)); refine blk_put (cs := #[.int .i64 ((rd_T45 y176 3).f0), .int .i64 ((rd_T45 y176 3).f1)]) ?_ 0 _ rfl; (with_reducible repeat (first | refine blk_drewN ?_ _ | refine blk_drew ?_ | refine blk_alloc ?_ _)); refine blk_put (cs := #[.int .i64 ((rd_T45 y176 3).f0), .int .i64 0]) ?_ 1 _ rfl; (with_reducible repeat (first | refine blk_drewN ?_ _ | refine blk_drew ?_ | refine blk_alloc ?_ _)); refine blk_put (cs := #[.int .i64 0, .int .i64 0]) ?_ 0 _ rfl; (with_reducible repeat (first | refine blk_drewN ?_ _ | refine blk_drew ?_ | refine blk_alloc ?_ _)); refine blk_far ?_ NB182_181.out _; (with_reducible repeat (first | refine blk_drewN ?_ _ | refine blk_drew ?_ | refine blk_alloc ?_ _)); refine blk_far ?_ NB182_181.out _; (with_reducible repeat (first | refine blk_drewN ?_ _ | refine blk_drew ?_ | refine blk_alloc ?_ _)); exact BK182.out⟩, ⟨by repeat (first | (with_reducible first | exact HB.out | apply below_alloc | apply pw_below_drewN | apply below_drew1 | refine below_set ?_ GE181.out | refine below_set ?_ GE182.out) | exact HB.out)⟩⟩
                  · rw [if_neg c61] at H
                    have c61b0 : (t157.toList == ([58, 58] : List UInt8)) = false := beq_eq_false_iff_ne.mpr c61
                    have c61b1 : (t157.toList != ([58, 58] : List UInt8)) = true := bne_iff_ne.mpr c61
                    have H' := Aside0.mk H
                    clear H
                    go_wp2
                    go_meet
                    case rel => exact ⟨_, ((rd_T45 y176 2).f0), ((rd_T45 y176 2).f1), ((rd_T45 y176 3).f0), ((rd_T45 y176 3).f1), H', ⟨by have := HJ2.out; first | omega | exact Nat.le_refl _⟩, ⟨by (with_reducible repeat (first | apply Kd.R_alloc | apply Kd.R_drewN | apply Kd.R_drew)); exact Kd.R_mono (Kd.R_far (p := ⟨gb182, 1, none⟩) (Kd.R_far (p := ⟨gb182, 0, none⟩) (Kd.R_far (p := ⟨gb181, 1, none⟩) (Kd.R_far (p := ⟨gb181, 0, none⟩) (Kd.R_mono (Kd.R_mono HO178.out (fun k_ hk => (⟨hk, hk.2.1⟩ : _ ∧ k_ ≠ gb181))) (fun k_ hk => (⟨hk, hk.1.2.2⟩ : _ ∧ k_ ≠ gb182))) (fun _ hk => hk.1.2) (.int .i64 ((rd_T45 y176 2).f0))) (fun _ hk => hk.1.2) (.int .i64 ((rd_T45 y176 2).f1))) (fun _ hk => hk.2) (.int .i64 ((rd_T45 y176 3).f0))) (fun _ hk => hk.2) (.int .i64 ((rd_T45 y176 3).f1))) (fun _ hk => ⟨hk.1.1.2.1, hk.1.1.2.2⟩)⟩, ⟨by (with_reducible repeat (first | refine blk_drewN ?_ _ | refine blk_drew ?_ | refine blk_alloc ?_ _)); refine blk_far ?_ NB181_182.out _; (with_reducible repeat (first | refine blk_drewN ?_ _ | refine blk_drew ?_ | refine blk_alloc ?_ _)); refine blk_far ?_ NB181_182.out _; (with_reducible repeat (first | refine blk_drewN ?_ _ | refine blk_drew ?_ | refine blk_alloc ?_ _)); refine blk_put (cs := #[.int .i64 ((rd_T45 y176 2).f0), .int .i64 0]) ?_ 1 _ rfl; (with_reducible repeat (first | refine blk_drewN ?_ _ | refine blk_drew ?_ | refine blk_alloc ?_ _)); refine blk_put (cs := #[.int .i64 0, .int .i64 0]) ?_ 0 _ rfl; (with_reducible repeat (first | refine blk_drewN ?_ _ | refine blk_drew ?_ | refine blk_alloc ?_ _)); exact BK181.out⟩, ⟨by (with_reducible repeat (first | refine blk_drewN ?_ _ | refine blk_drew ?_ | refine blk_alloc ?_ _)); refine blk_put (cs := #[.int .i64 ((rd_T45 y176 3).f0), .int .i64 0]) ?_ 1 _ rfl; (with_reducible repeat (first | refine blk_drewN ?_ _ | refine blk_drew ?_ | refine blk_alloc ?_ _)); refine blk_put (cs := #[.int .i64 0, .int .i64 0]) ?_ 0 _ rfl; (with_reducible repeat (first | refine blk_drewN ?_ _ | refine blk_drew ?_ | refine blk_alloc ?_ _)); refine blk_far ?_ NB182_181.out _; (with_reducible repeat (first | refine blk_drewN ?_ _ | refine blk_drew ?_ | refine blk_alloc ?_ _)); refine blk_far ?_ NB182_181.out _; (with_reducible repeat (first | refine blk_drewN ?_ _ | refine blk_drew ?_ | refine blk_alloc ?_ _)); exact BK182.out⟩, ⟨by repeat (first | (with_reducible first | exact HB.out | apply below_alloc | apply pw_below_drewN | apply below_drew1 | refine below_set ?_ GE181.out | refine below_set ?_ GE182.out) | exact HB.out)⟩⟩
              case rest =>
                clear HC43
                try clear c1
                try clear p1
                try clear q1
                try clear hx1
                try clear qi1
                try clear c2
                try clear p2
                try clear c3
                try clear c4
                try clear c5
                try clear c6
                try clear c6b0
                try clear c6b1
                try clear c7
                try clear c7b0
                try clear c7b1
                try clear c9
                try clear c10
                try clear c10b0
                try clear c10b1
                try clear p16
                try clear q16
                try clear hx16
                try clear qi16
                try clear c17
                try clear c17b0
                try clear c17b1
                try clear p17
                try clear q17
                try clear hx17
                try clear qi17
                try clear c18
                try clear c18b0
                try clear c18b1
                try clear p18
                try clear q18
                try clear hx18
                try clear qi18
                try clear c20
                try clear c21
                try clear c21b0
                try clear c21b1
                try clear c28
                try clear c28b0
                try clear c28b1
                try clear c29
                try clear c29b0
                try clear c29b1
                try clear c31
                try clear c32
                try clear c32b0
                try clear c32b1
                try clear c33
                try clear c39
                try clear c40
                try clear c41
                try clear c41b0
                try clear c41b1
                try clear c42
                try clear c42b0
                try clear c42b1
                try clear c57
                try clear c57b0
                try clear c57b1
                try clear c58
                try clear c61
                try clear c61b0
                try clear c61b1
                try clear c62
                try clear hcz59_0
                try clear hcz59_1
                try clear hcz60_0
                try clear hcz60_1
                try clear hcz63_0
                try clear hcz63_1
                try clear hfz59_0
                try clear hfz59_1
                try clear hfz60_0
                try clear hfz60_1
                try clear hfz63_0
                try clear hfz63_1
                try clear hx161_0
                try clear hx161_1
                try clear hx163_0
                try clear hx163_1
                try clear hx165_0
                try clear hx165_1
                try clear hx167_0
                try clear hx167_1
                try clear hx169_0
                try clear hx169_1
                try clear hx171_0
                try clear hx171_1
                try clear hx179_0
                try clear hx179_1
                try clear hx180_0
                try clear hx180_1
                try clear p1
                try clear p16
                try clear p161
                try clear p163
                try clear p165
                try clear p167
                try clear p169
                try clear p17
                try clear p171
                try clear p179
                try clear p180
                try clear p2
                try clear q1
                try clear q16
                try clear q161
                try clear q163
                try clear q165
                try clear q167
                try clear q169
                try clear q17
                try clear q171
                try clear q179
                try clear q180
                obtain ⟨kq, x182000_42, x182001_42, x183000_42, x183001_42, HA, HJ42, HO_4, BK181, BK182, HB⟩ := hcut
                cases kq with
                | zero => exact absurd HA.out (by simp [clock_Read.j1])
                | succ kj42 =>
                  have H := HA.out
                  clear HA
                  simp only [clock_Read.j1] at H
                  have HC64 := Aside0.mk H
                  clear H
                  go_upto_region 11 with (fail)
                  go_cut [69] (fun v69 wc => ∃ (kq : Nat) (x69_63 : Bool), v69 = .bool x69_63 ∧ Aside0 (clock_Read.j2 kq y176 x69_63 x182000_42 x182001_42 x183000_42 x183001_42 = some (r1, r2)) ∧ Aside0 (kq ≤ kj42) ∧ Aside0 (Kd.R k45 45 wc w.heap.size (fun k_ => k_ ≠ gb181 ∧ k_ ≠ gb182) (.slice (some ad179) y176.length co49) y176) ∧ Aside0 (wc.heap[gb181]? = some (.cells #[.int .i64 x182000_42, .int .i64 x182001_42] 45 (0, 0))) ∧ Aside0 (wc.heap[gb182]? = some (.cells #[.int .i64 x183000_42, .int .i64 x183001_42] 45 (0, 0))) ∧ Aside0 (Below w.heap.size w wc))
                  case first =>
                    have H := HC64.out
                    clear HC64
                    replace H := Option.bind_eq_some_iff.mp H
                    obtain ⟨t183, A650, H⟩ := H
                    replace H : (if t183 = true then (clock_Read.j2 kj42 y176 (x183001_42 == 0) x182000_42 x182001_42 x183000_42 x183001_42) else (clock_Read.j2 kj42 y176 true x182000_42 x182001_42 x183000_42 x183001_42)) = some (r1, r2) := H
                    have A65 := Aside0.mk A650
                    clear A650
                    by_cases c66 : t183 = true
                    · subst c66
                      have H1 : (clock_Read.j2 kj42 y176 (x183001_42 == 0) x182000_42 x182001_42 x183000_42 x183001_42) = some (r1, r2) := by rw [if_pos rfl] at H; exact H
                      clear H
                      have H := H1
                      clear H1
                      have H' := Aside0.mk H
                      clear H
                      have hnb67 := NB181_182.out
                      have hnc67 := NB182_181.out
                      have hcz68_0 : wc.cell? ⟨gb181, 0, none⟩ = some (.int .i64 x182000_42) := (blk_cell BK181.out 0).trans rfl
                      have hcz68_1 : wc.cell? ⟨gb181, 1, none⟩ = some (.int .i64 x182001_42) := (blk_cell BK181.out 1).trans rfl
                      have hfz68_0 := blk_frozen BK181.out 0
                      have hfz68_1 := blk_frozen BK181.out 1
                      go_wp2_with (first | ((with_reducible refine gate_callee (f := 35) rfl ?_); refine goesL_ (some 63) rfl rfl Try.func35 (by kernel_rfl) rfl #[.agg #[.int .i64 x182000_42, .int .i64 x182001_42]] rfl (by (try simp only [List.map_toArray, List.map_cons, List.map_nil]); first | done | rfl | (simp only [List.length_drop, List.length_take]; rfl)) ?_; (with_reducible refine (clock_group_two.calls x182000_42 x182001_42 true _ A65.out).mono ?_); rintro e w69 ⟨rfl, hb⟩; refine ⟨_, rfl, ?_⟩; have n0_ := Aside0.mk (Kd.R_below (by (with_reducible repeat (first | apply Kd.R_alloc | apply Kd.R_drewN | apply Kd.R_drew)); exact HO_4.out) hb); have n1_ := Aside0.mk (blk_below (g := gb181) (o := .cells #[.int .i64 x182000_42, .int .i64 x182001_42] 45 (0, 0)) (by (with_reducible repeat (first | refine blk_drewN ?_ _ | refine blk_drew ?_ | refine blk_alloc ?_ _)); exact BK181.out) hb); have n2_ := Aside0.mk (blk_below (g := gb182) (o := .cells #[.int .i64 x183000_42, .int .i64 x183001_42] 45 (0, 0)) (by (with_reducible repeat (first | refine blk_drewN ?_ _ | refine blk_drew ?_ | refine blk_alloc ?_ _)); exact BK182.out) hb); have n3_ := Aside0.mk (below_step (by repeat (first | (with_reducible first | exact HB.out | apply below_alloc | apply pw_below_drewN | apply below_drew1 | refine below_set ?_ GE181.out | refine below_set ?_ GE182.out) | exact HB.out)) hb); clear HO_4; clear BK181; clear BK182; clear HB; have HO_4 := n0_; have BK181 := n1_; have BK182 := n2_; have HB := n3_; clear n0_ n1_ n2_ n3_; (try clear hb); (try clear hb2); (try clear hk); (try clear hi); have hcz70_0 : w69.cell? ⟨gb182, 0, none⟩ = some (.int .i64 x183000_42) := (blk_cell BK182.out 0).trans rfl; have hcz70_1 : w69.cell? ⟨gb182, 1, none⟩ = some (.int .i64 x183001_42) := (blk_cell BK182.out 1).trans rfl; have hfz70_0 := blk_frozen BK182.out 0; have hfz70_1 := blk_frozen BK182.out 1))
                      go_meet
                      case rel => exact ⟨_, ((x183001_42 == 0)), (by first | rfl | (simp; done) | (simp [*]; done)), H', ⟨by have := HJ2.out; have := HJ42.out; first | omega | exact Nat.le_refl _⟩, ⟨by (with_reducible repeat (first | apply Kd.R_alloc | apply Kd.R_drewN | apply Kd.R_drew)); exact HO_4.out⟩, ⟨by (with_reducible repeat (first | refine blk_drewN ?_ _ | refine blk_drew ?_ | refine blk_alloc ?_ _)); exact BK181.out⟩, ⟨by (with_reducible repeat (first | refine blk_drewN ?_ _ | refine blk_drew ?_ | refine blk_alloc ?_ _)); exact BK182.out⟩, ⟨by repeat (first | (with_reducible first | exact HB.out | apply below_alloc | apply pw_below_drewN | apply below_drew1 | refine below_set ?_ GE181.out | refine below_set ?_ GE182.out) | exact HB.out)⟩⟩
                    · replace c66 := Bool.eq_false_iff.mpr c66
                      subst c66
                      have H1 : (clock_Read.j2 kj42 y176 true x182000_42 x182001_42 x183000_42 x183001_42) = some (r1, r2) := by rw [if_neg (show ¬ (false = true) by decide)] at H; exact H
                      clear H
                      have H := H1
                      clear H1
                      have H' := Aside0.mk H
                      clear H
                      have hnb71 := NB181_182.out
                      have hnc71 := NB182_181.out
                      have hcz72_0 : wc.cell? ⟨gb181, 0, none⟩ = some (.int .i64 x182000_42) := (blk_cell BK181.out 0).trans rfl
                      have hcz72_1 : wc.cell? ⟨gb181, 1, none⟩ = some (.int .i64 x182001_42) := (blk_cell BK181.out 1).trans rfl
                      have hfz72_0 := blk_frozen BK181.out 0
                      have hfz72_1 := blk_frozen BK181.out 1
                      go_wp2_with (first | ((with_reducible refine gate_callee (f := 35) rfl ?_); refine goesL_ (some 63) rfl rfl Try.func35 (by kernel_rfl) rfl #[.agg #[.int .i64 x182000_42, .int .i64 x182001_42]] rfl (by (try simp only [List.map_toArray, List.map_cons, List.map_nil]); first | done | rfl | (simp only [List.length_drop, List.length_take]; rfl)) ?_; (with_reducible refine (clock_group_two.calls x182000_42 x182001_42 false _ A65.out).mono ?_); rintro e w73 ⟨rfl, hb⟩; refine ⟨_, rfl, ?_⟩; have n0_ := Aside0.mk (Kd.R_below (by (with_reducible repeat (first | apply Kd.R_alloc | apply Kd.R_drewN | apply Kd.R_drew)); exact HO_4.out) hb); have n1_ := Aside0.mk (blk_below (g := gb181) (o := .cells #[.int .i64 x182000_42, .int .i64 x182001_42] 45 (0, 0)) (by (with_reducible repeat (first | refine blk_drewN ?_ _ | refine blk_drew ?_ | refine blk_alloc ?_ _)); exact BK181.out) hb); have n2_ := Aside0.mk (blk_below (g := gb182) (o := .cells #[.int .i64 x183000_42, .int .i64 x183001_42] 45 (0, 0)) (by (with_reducible repeat (first | refine blk_drewN ?_ _ | refine blk_drew ?_ | refine blk_alloc ?_ _)); exact BK182.out) hb); have n3_ := Aside0.mk (below_step (by repeat (first | (with_reducible first | exact HB.out | apply below_alloc | apply pw_below_drewN | apply below_drew1 | refine below_set ?_ GE181.out | refine below_set ?_ GE182.out) | exact HB.out)) hb); clear HO_4; clear BK181; clear BK182; clear HB; have HO_4 := n0_; have BK181 := n1_; have BK182 := n2_; have HB := n3_; clear n0_ n1_ n2_ n3_; (try clear hb); (try clear hb2); (try clear hk); (try clear hi)))
                      go_meet
                      case rel => exact ⟨_, (true), (by first | rfl | (simp; done) | (simp [*]; done)), H', ⟨by have := HJ2.out; have := HJ42.out; first | omega | exact Nat.le_refl _⟩, ⟨by (with_reducible repeat (first | apply Kd.R_alloc | apply Kd.R_drewN | apply Kd.R_drew)); exact HO_4.out⟩, ⟨by (with_reducible repeat (first | refine blk_drewN ?_ _ | refine blk_drew ?_ | refine blk_alloc ?_ _)); exact BK181.out⟩, ⟨by (with_reducible repeat (first | refine blk_drewN ?_ _ | refine blk_drew ?_ | refine blk_alloc ?_ _)); exact BK182.out⟩, ⟨by repeat (first | (with_reducible first | exact HB.out | apply below_alloc | apply pw_below_drewN | apply below_drew1 | refine below_set ?_ GE181.out | refine below_set ?_ GE182.out) | exact HB.out)⟩⟩
                  case rest =>
                    clear HC64
                    try clear c1
                    try clear p1
                    try clear q1
                    try clear hx1
                    try clear qi1
                    try clear c2
                    try clear p2
                    try clear c3
                    try clear c4
                    try clear c5
                    try clear c6
                    try clear c6b0
                    try clear c6b1
                    try clear c7
                    try clear c7b0
                    try clear c7b1
                    try clear c9
                    try clear c10
                    try clear c10b0
                    try clear c10b1
                    try clear p16
                    try clear q16
                    try clear hx16
                    try clear qi16
                    try clear c17
                    try clear c17b0
                    try clear c17b1
                    try clear p17
                    try clear q17
                    try clear hx17
                    try clear qi17
                    try clear c18
                    try clear c18b0
                    try clear c18b1
                    try clear p18
                    try clear q18
                    try clear hx18
                    try clear qi18
                    try clear c20
                    try clear c21
                    try clear c21b0
                    try clear c21b1
                    try clear c28
                    try clear c28b0
                    try clear c28b1
                    try clear c29
                    try clear c29b0
                    try clear c29b1
                    try clear c31
                    try clear c32
                    try clear c32b0
                    try clear c32b1
                    try clear c33
                    try clear c35
                    try clear c39
                    try clear c40
                    try clear c41
                    try clear c41b0
                    try clear c41b1
                    try clear c42
                    try clear c42b0
                    try clear c42b1
                    try clear c57
                    try clear c57b0
                    try clear c57b1
                    try clear c58
                    try clear c61
                    try clear c61b0
                    try clear c61b1
                    try clear c62
                    try clear c66
                    try clear c67
                    try clear c71
                    try clear hcz59_0
                    try clear hcz59_1
                    try clear hcz60_0
                    try clear hcz60_1
                    try clear hcz63_0
                    try clear hcz63_1
                    try clear hcz68_0
                    try clear hcz68_1
                    try clear hcz70_0
                    try clear hcz70_1
                    try clear hcz72_0
                    try clear hcz72_1
                    try clear hfz59_0
                    try clear hfz59_1
                    try clear hfz60_0
                    try clear hfz60_1
                    try clear hfz63_0
                    try clear hfz63_1
                    try clear hfz68_0
                    try clear hfz68_1
                    try clear hfz70_0
                    try clear hfz70_1
                    try clear hfz72_0
                    try clear hfz72_1
                    try clear hx161_0
                    try clear hx161_1
                    try clear hx163_0
                    try clear hx163_1
                    try clear hx165_0
                    try clear hx165_1
                    try clear hx167_0
                    try clear hx167_1
                    try clear hx169_0
                    try clear hx169_1
                    try clear hx171_0
                    try clear hx171_1
                    try clear hx179_0
                    try clear hx179_1
                    try clear hx180_0
                    try clear hx180_1
                    try clear p1
                    try clear p16
                    try clear p161
                    try clear p163
                    try clear p165
                    try clear p167
                    try clear p169
                    try clear p17
                    try clear p171
                    try clear p179
                    try clear p18
                    try clear p180
                    try clear p2
                    try clear q1
                    try clear q16
                    try clear q161
                    try clear q163
                    try clear q165
                    try clear q167
                    try clear q169
                    try clear q17
                    try clear q171
                    try clear q179
                    try clear q18
                    try clear q180
                    obtain ⟨kq, x69_63, rfl, HA, HJ63, HO_4, BK181, BK182, HB⟩ := hcut
                    cases kq with
                    | zero => exact absurd HA.out (by simp [clock_Read.j2])
                    | succ kj63 =>
                      have H := HA.out
                      clear HA
                      simp only [clock_Read.j2] at H
                      by_cases c74 : x69_63 = true
                      · subst c74
                        have H1 : (some (0, 13)) = some (r1, r2) := by rw [if_pos rfl] at H; exact H
                        clear H
                        have H := H1
                        clear H1
                        simp only [Option.some.injEq, Prod.mk.injEq] at H
                        obtain ⟨rfl, rfl⟩ := H
                        go_wp2
                        go_ret2
                        exact ⟨by first | rfl | (simp [errW_none, errW_some] <;> rfl) | (simp [*, errW_none, errW_some] <;> rfl), by repeat (first | (with_reducible first | exact HB.out | apply below_alloc | apply pw_below_drewN | apply below_drew1 | refine below_set ?_ GE181.out | refine below_set ?_ GE182.out) | exact HB.out)⟩
                      · replace c74 := Bool.eq_false_iff.mpr c74
                        subst c74
                        have H1 : (clock_Read.l0 kj63 y176 x182000_42 x182001_42 x183000_42 x183001_42) = some (r1, r2) := by rw [if_neg (show ¬ (false = true) by decide)] at H; exact H
                        clear H
                        have H := H1
                        clear H1
                        have H' := Aside0.mk H
                        clear H
                        go_wp2
                        go_loopg [] kj63 (fun kq w' => ∃ (x183000_4 : Int) (x183001_4 : Int), Aside0 (clock_Read.l0 kq y176 x182000_42 x182001_42 x183000_4 x183001_4 = some (r1, r2)) ∧ Aside0 (kq ≤ kj63) ∧ Aside0 (Kd.R k45 45 w' w.heap.size (fun k_ => k_ ≠ gb181 ∧ k_ ≠ gb182) (.slice (some ad179) y176.length co49) y176) ∧ Aside0 (w'.heap[gb181]? = some (.cells #[.int .i64 x182000_42, .int .i64 x182001_42] 45 (0, 0))) ∧ Aside0 (w'.heap[gb182]? = some (.cells #[.int .i64 x183000_4, .int .i64 x183001_4] 45 (0, 0))) ∧ Aside0 (Below w.heap.size w w'))
                        case atStart => exact ⟨(x183000_42), (x183001_42), H', ⟨Nat.le_refl _⟩, ⟨by (with_reducible repeat (first | apply Kd.R_alloc | apply Kd.R_drewN | apply Kd.R_drew)); exact HO_4.out⟩, ⟨by (with_reducible repeat (first | refine blk_drewN ?_ _ | refine blk_drew ?_ | refine blk_alloc ?_ _)); exact BK181.out⟩, ⟨by (with_reducible repeat (first | refine blk_drewN ?_ _ | refine blk_drew ?_ | refine blk_alloc ?_ _)); exact BK182.out⟩, ⟨by repeat (first | (with_reducible first | exact HB.out | apply below_alloc | apply pw_below_drewN | apply below_drew1 | refine below_set ?_ GE181.out | refine below_set ?_ GE182.out) | exact HB.out)⟩⟩
                        case round =>
                          clear H'
                          try clear c1
                          try clear p1
                          try clear q1
                          try clear hx1
                          try clear qi1
                          try clear c2
                          try clear p2
                          try clear c3
                          try clear c4
                          try clear c5
                          try clear c6
                          try clear c6b0
                          try clear c6b1
                          try clear c7
                          try clear c7b0
                          try clear c7b1
                          try clear c9
                          try clear c10
                          try clear c10b0
                          try clear c10b1
                          try clear p16
                          try clear q16
                          try clear hx16
                          try clear qi16
                          try clear c17
                          try clear c17b0
                          try clear c17b1
                          try clear p17
                          try clear q17
                          try clear hx17
                          try clear qi17
                          try clear c18
                          try clear c18b0
                          try clear c18b1
                          try clear p18
                          try clear q18
                          try clear hx18
                          try clear qi18
                          try clear c20
                          try clear c21
                          try clear c21b0
                          try clear c21b1
                          try clear c28
                          try clear c28b0
                          try clear c28b1
                          try clear c29
                          try clear c29b0
                          try clear c29b1
                          try clear c31
                          try clear c32
                          try clear c32b0
                          try clear c32b1
                          try clear c33
                          try clear c35
                          try clear c39
                          try clear c40
                          try clear c41
                          try clear c41b0
                          try clear c41b1
                          try clear c42
                          try clear c42b0
                          try clear c42b1
                          try clear c57
                          try clear c57b0
                          try clear c57b1
                          try clear c58
                          try clear c61
                          try clear c61b0
                          try clear c61b1
                          try clear c62
                          try clear c66
                          try clear c67
                          try clear c71
                          try clear c74
                          try clear hcz59_0
                          try clear hcz59_1
                          try clear hcz60_0
                          try clear hcz60_1
                          try clear hcz63_0
                          try clear hcz63_1
                          try clear hcz68_0
                          try clear hcz68_1
                          try clear hcz70_0
                          try clear hcz70_1
                          try clear hcz72_0
                          try clear hcz72_1
                          try clear hfz59_0
                          try clear hfz59_1
                          try clear hfz60_0
                          try clear hfz60_1
                          try clear hfz63_0
                          try clear hfz63_1
                          try clear hfz68_0
                          try clear hfz68_1
                          try clear hfz70_0
                          try clear hfz70_1
                          try clear hfz72_0
                          try clear hfz72_1
                          try clear hx161_0
                          try clear hx161_1
                          try clear hx163_0
                          try clear hx163_1
                          try clear hx165_0
                          try clear hx165_1
                          try clear hx167_0
                          try clear hx167_1
                          try clear hx169_0
                          try clear hx169_1
                          try clear hx171_0
                          try clear hx171_1
                          try clear hx179_0
                          try clear hx179_1
                          try clear hx180_0
                          try clear hx180_1
                          try clear p1
                          try clear p16
                          try clear p161
                          try clear p163
                          try clear p165
                          try clear p167
                          try clear p169
                          try clear p17
                          try clear p171
                          try clear p179
                          try clear p18
                          try clear p180
                          try clear p2
                          try clear q1
                          try clear q16
                          try clear q161
                          try clear q163
                          try clear q165
                          try clear q167
                          try clear q169
                          try clear q17
                          try clear q171
                          try clear q179
                          try clear q18
                          try clear q180
                          obtain ⟨x183000_4, x183001_4, HA, HK4, HO_4, BK181, BK182, HB⟩ := hrel
                          cases gk with
                          | zero => exact absurd HA.out (by simp [clock_Read.l0])
                          | succ k4 =>
                            have H := HA.out
                            clear HA
                            simp only [clock_Read.l0] at H
                            by_cases c75 : x183001_4 < 6
                            · rw [if_pos c75] at H
                              have c75b0 : decide (x183001_4 < 6) = true := decide_eq_true c75
                              clear c75
                              have H' := Aside0.mk H
                              clear H
                              have hnb76 := NB182_181.out
                              have hnc76 := NB181_182.out
                              have hcz77_0 : wr.cell? ⟨gb182, 0, none⟩ = some (.int .i64 x183000_4) := (blk_cell BK182.out 0).trans rfl
                              have hcz77_1 : wr.cell? ⟨gb182, 1, none⟩ = some (.int .i64 x183001_4) := (blk_cell BK182.out 1).trans rfl
                              have hfz77_0 := blk_frozen BK182.out 0
                              have hfz77_1 := blk_frozen BK182.out 1
                              go_wp2
                              go_roundg k4
                              case measure => have := HJ2.out; have := HJ42.out; have := HJ63.out; have := HK4.out; omega
                              case rel => exact ⟨(wrap64 (x183000_4 * 10)), (wrap64 (x183001_4 + 1)), H', ⟨by have := HJ2.out; have := HJ42.out; have := HJ63.out; have := HK4.out; omega⟩, ⟨by (with_reducible repeat (first | apply Kd.R_alloc | apply Kd.R_drewN | apply Kd.R_drew)); exact Kd.R_mono (Kd.R_far (p := ⟨gb182, 1, none⟩) (Kd.R_far (p := ⟨gb182, 0, none⟩) (Kd.R_mono HO_4.out (fun k_ hk => (⟨hk, hk.2⟩ : _ ∧ k_ ≠ gb182))) (fun _ hk => hk.2) (.int .i64 (wrap64 (x183000_4 * 10)))) (fun _ hk => hk.2) (.int .i64 (wrap64 (x183001_4 + 1)))) (fun _ hk => ⟨hk.1.1, hk.1.2⟩)⟩, ⟨by (with_reducible repeat (first | refine blk_drewN ?_ _ | refine blk_drew ?_ | refine blk_alloc ?_ _)); refine blk_far ?_ NB181_182.out _; (with_reducible repeat (first | refine blk_drewN ?_ _ | refine blk_drew ?_ | refine blk_alloc ?_ _)); refine blk_far ?_ NB181_182.out _; (with_reducible repeat (first | refine blk_drewN ?_ _ | refine blk_drew ?_ | refine blk_alloc ?_ _)); exact BK181.out⟩, ⟨by (with_reducible repeat (first | refine blk_drewN ?_ _ | refine blk_drew ?_ | refine blk_alloc ?_ _)); refine blk_put (cs := #[.int .i64 (wrap64 (x183000_4 * 10)), .int .i64 x183001_4]) ?_ 1 _ rfl; (with_reducible repeat (first | refine blk_drewN ?_ _ | refine blk_drew ?_ | refine blk_alloc ?_ _)); refine blk_put (cs := #[.int .i64 x183000_4, .int .i64 x183001_4]) ?_ 0 _ rfl; (with_reducible repeat (first | refine blk_drewN ?_ _ | refine blk_drew ?_ | refine blk_alloc ?_ _)); exact BK182.out⟩, ⟨by repeat (first | (with_reducible first | exact HB.out | apply below_alloc | apply pw_below_drewN | apply below_drew1 | refine below_set ?_ GE181.out | refine below_set ?_ GE182.out) | exact HB.out)⟩⟩
                            · rw [if_neg c75] at H
                              have c75b0 : decide (x183001_4 < 6) = false := decide_eq_false c75
                              clear c75
                              by_cases c78 : 0 < (y176.length : Int)
                              · rw [if_pos c78] at H
                                have c78b0 : decide (0 < (y176.length : Int)) = true := decide_eq_true c78
                                have c78b1 : decide (0 < y176.length) = true := decide_eq_true (by omega)
                                clear c78
                                by_cases c79 : 1 < (y176.length : Int)
                                · rw [if_pos c79] at H
                                  have c79b0 : decide (1 < (y176.length : Int)) = true := decide_eq_true c79
                                  have c79b1 : decide (1 < y176.length) = true := decide_eq_true (by omega)
                                  clear c79
                                  replace H := Option.bind_eq_some_iff.mp H
                                  obtain ⟨⟨t186, t187⟩, A800, H⟩ := H
                                  replace H : (some (t186, t187)) = some (r1, r2) := H
                                  have A80 := Aside0.mk A800
                                  clear A800
                                  simp only [Option.some.injEq, Prod.mk.injEq] at H
                                  obtain ⟨rfl, rfl⟩ := H
                                  have hnb81 := NB182_181.out
                                  have hnc81 := NB181_182.out
                                  have hcz82_0 : wr.cell? ⟨gb182, 0, none⟩ = some (.int .i64 x183000_4) := (blk_cell BK182.out 0).trans rfl
                                  have hcz82_1 : wr.cell? ⟨gb182, 1, none⟩ = some (.int .i64 x183001_4) := (blk_cell BK182.out 1).trans rfl
                                  have hfz82_0 := blk_frozen BK182.out 0
                                  have hfz82_1 := blk_frozen BK182.out 1
                                  try go_wp2
                                  have n0_ := Aside0.mk (Kd.R_drew HO_4.out)
                                  have n1_ := Aside0.mk (blk_drew BK181.out)
                                  have n2_ := Aside0.mk (blk_drew BK182.out)
                                  have n3_ := Aside0.mk (below_drew1 HB.out)
                                  clear HO_4
                                  clear BK181
                                  clear BK182
                                  clear HB
                                  have HO_4 := n0_
                                  have BK181 := n1_
                                  have BK182 := n2_
                                  have HB := n3_
                                  clear n0_ n1_ n2_ n3_
                                  have p184 : 0 ≤ (0 : Int) := (by omega)
                                  have q184 : 0 < (y176.length : Int) := of_decide_eq_true (by first | (with_reducible assumption) | assumption)
                                  obtain ⟨ad184, e184, hx184_0, hx184_1⟩ := at_T45 (Kd.R_reads' HO_4.out).2.2 0 p184 q184
                                  obtain rfl : ad179 = ad184 := (by injection e184)
                                  have qi184 : (0 < y176.length) = True := eq_true (by omega)
                                  (try rw [show ((0 : Int)).toNat = 0 from rfl] at hx184_0)
                                  (try rw [show 0 * 2 = 0 from rfl] at hx184_0)
                                  (try rw [Addr.add_zero'] at hx184_0)
                                  (try rw [show ((0 : Int)).toNat = 0 from rfl] at hx184_1)
                                  (try rw [show 0 * 2 = 0 from rfl] at hx184_1)
                                  (try rw [Addr.add_zero'] at hx184_1)
                                  replace p184 := eq_true p184
                                  replace q184 := eq_true q184
                                  have p185 : 0 ≤ (1 : Int) := (by omega)
                                  have q185 : 1 < (y176.length : Int) := of_decide_eq_true (by first | (with_reducible assumption) | assumption)
                                  obtain ⟨ad185, e185, hx185_0, hx185_1⟩ := at_T45 (Kd.R_reads' HO_4.out).2.2 1 p185 q185
                                  obtain rfl : ad179 = ad185 := (by injection e185)
                                  (try simp only [show (1 : Int).toNat = 1 from rfl, Nat.reduceMul, Nat.reduceEqDiff, Go.Addr.add, ↓reduceIte] at hx185_0)
                                  (try simp only [show (1 : Int).toNat = 1 from rfl, Nat.reduceMul, Nat.reduceEqDiff, Go.Addr.add, ↓reduceIte] at hx185_1)
                                  have qi185 : (1 < y176.length) = True := eq_true (by omega)
                                  (try rw [show ((1 : Int)).toNat = 1 from rfl] at hx185_0)
                                  (try rw [show 1 * 2 = 2 from rfl] at hx185_0)
                                  (try rw [show ((1 : Int)).toNat = 1 from rfl] at hx185_1)
                                  (try rw [show 1 * 2 = 2 from rfl] at hx185_1)
                                  replace p185 := eq_true p185
                                  replace q185 := eq_true q185
                                  refine start_ (n := 17) (S := fun w' => w'.cell? ⟨gb181, 0, none⟩ = some (.int .i64 x182000_42) ∧ w'.cell? ⟨gb181, 1, none⟩ = some (.int .i64 x182001_42) ∧ w'.cell? ⟨gb182, 0, none⟩ = some (.int .i64 x183000_4) ∧ w'.cell? ⟨gb182, 1, none⟩ = some (.int .i64 x183001_4) ∧ w'.cell? ad179 = some (.int .i64 ((rd_T45 y176 0).f0)) ∧ w'.cell? ⟨ad179.block, ad179.off + 1, none⟩ = some (.int .i64 ((rd_T45 y176 0).f1)) ∧ w'.cell? ⟨ad179.block, ad179.off + 2, none⟩ = some (.int .i64 ((rd_T45 y176 1).f0)) ∧ w'.cell? ⟨ad179.block, ad179.off + 2 + 1, none⟩ = some (.int .i64 ((rd_T45 y176 1).f1))) (ds := []) #[false, false, false, false, false, false, false, false, false, false, false, false, false, false, false, false, false] (by kernel_rfl) rfl rfl ⟨(blk_cell BK181.out 0).trans rfl, (blk_cell BK181.out 1).trans rfl, (blk_cell BK182.out 0).trans rfl, (blk_cell BK182.out 1).trans rfl, hx184_0, hx184_1, hx185_0, hx185_1⟩ (fun hHeld => ?_); refine with_tabW clock_Read.tab16 clock_Read.bits16 (fun HT_ HW_ => ?_)
                                  generalize wr.drew = w83 at HO_4 BK181 BK182 HB hx184_0 hx184_1 hx185_0 hx185_1 hHeld ⊢
                                  refine pure_ (i := 0) (N := some 81) (v := ?_) (a' := ?_) #[true, false, false, false, false, false, false, false, false, false, false, false, false, false, false, false, false] rfl rfl (any_of HT_.out (by kernel_rfl)) (fun _ _ _ h => h) (Or.inl ⟨by rfl, ?_⟩) ?_ ?_
                                  rotate_left
                                  · intro w'
                                    go_simp
                                    with_reducible rfl
                                  rotate_left
                                  · simp only [Act.put, List.setIfInBounds_toArray, List.set_cons_zero, List.set_cons_succ, i64_w, i32_w]
                                    rfl
                                  refine pure_ (i := 1) (N := some 82) (v := ?_) (a' := ?_) #[true, true, false, false, false, false, false, false, false, false, false, false, false, false, false, false, false] rfl rfl (any_of HT_.out (by kernel_rfl)) (fun _ _ _ h => h) (Or.inl ⟨by rfl, ?_⟩) ?_ ?_
                                  rotate_left
                                  · intro w'
                                    go_simp
                                    with_reducible rfl
                                  rotate_left
                                  · simp only [Act.put, List.setIfInBounds_toArray, List.set_cons_zero, List.set_cons_succ, i64_w, i32_w]
                                    rfl
                                  refine pure_ (i := 2) (N := some 83) (v := ?_) (a' := ?_) #[true, true, true, false, false, false, false, false, false, false, false, false, false, false, false, false, false] rfl rfl (any_of HT_.out (by kernel_rfl)) (fun _ _ _ h => h) (Or.inl ⟨by rfl, ?_⟩) ?_ ?_
                                  rotate_left
                                  · intro w'
                                    go_simp
                                    with_reducible rfl
                                  rotate_left
                                  · simp only [Act.put, List.setIfInBounds_toArray, List.set_cons_zero, List.set_cons_succ, i64_w, i32_w]
                                    rfl
                                  refine pure_ (i := 4) (N := some 85) (v := ?_) (a' := ?_) #[true, true, true, false, true, false, false, false, false, false, false, false, false, false, false, false, false] rfl rfl (any_of HT_.out (by kernel_rfl)) (fun _ _ _ h => h) (Or.inl ⟨by rfl, ?_⟩) ?_ ?_
                                  rotate_left
                                  · intro w'
                                    go_simp
                                    with_reducible rfl
                                  rotate_left
                                  · simp only [Act.put, List.setIfInBounds_toArray, List.set_cons_zero, List.set_cons_succ, i64_w, i32_w]
                                    rfl
                                  refine pure_ (i := 5) (N := some 86) (v := ?_) (a' := ?_) #[true, true, true, false, true, true, false, false, false, false, false, false, false, false, false, false, false] rfl rfl (any_of HT_.out (by kernel_rfl)) (fun _ _ _ h => h) (Or.inl ⟨by rfl, ?_⟩) ?_ ?_
                                  rotate_left
                                  · intro w'
                                    go_simp
                                    with_reducible rfl
                                  rotate_left
                                  · simp only [Act.put, List.setIfInBounds_toArray, List.set_cons_zero, List.set_cons_succ, i64_w, i32_w]
                                    rfl
                                  refine pure_ (i := 6) (N := some 87) (v := ?_) (a' := ?_) #[true, true, true, false, true, true, true, false, false, false, false, false, false, false, false, false, false] rfl rfl (any_of HT_.out (by kernel_rfl)) (fun _ _ _ h => h) (Or.inl ⟨by rfl, ?_⟩) ?_ ?_
                                  rotate_left
                                  · intro w'
                                    go_simp
                                    with_reducible rfl
                                  rotate_left
                                  · simp only [Act.put, List.setIfInBounds_toArray, List.set_cons_zero, List.set_cons_succ, i64_w, i32_w]
                                    rfl
                                  refine pure_ (i := 8) (N := some 89) (v := ?_) (a' := ?_) #[true, true, true, false, true, true, true, false, true, false, false, false, false, false, false, false, false] rfl rfl (any_of HT_.out (by kernel_rfl)) (fun _ _ _ h => h) (Or.inl ⟨by rfl, ?_⟩) ?_ ?_
                                  rotate_left
                                  · intro w'
                                    go_simp
                                    with_reducible rfl
                                  rotate_left
                                  · simp only [Act.put, List.setIfInBounds_toArray, List.set_cons_zero, List.set_cons_succ, i64_w, i32_w]
                                    rfl
                                  refine pure_ (i := 10) (N := some 91) (v := ?_) (a' := ?_) #[true, true, true, false, true, true, true, false, true, false, true, false, false, false, false, false, false] rfl rfl (any_of HT_.out (by kernel_rfl)) (fun _ _ _ h => h) (Or.inl ⟨by rfl, ?_⟩) ?_ ?_
                                  rotate_left
                                  · intro w'
                                    go_simp
                                    with_reducible rfl
                                  rotate_left
                                  · simp only [Act.put, List.setIfInBounds_toArray, List.set_cons_zero, List.set_cons_succ, i64_w, i32_w]
                                    rfl
                                  refine take_ (i := 3) (N := some 84) (v := ?_) (a' := ?_) #[true, true, true, true, true, true, true, false, true, false, true, false, false, false, false, false, false] rfl rfl (take_ofW HT_.out HW_.out (by kernel_rfl)) (fun _ _ _ h => h) (Or.inl ⟨by rfl, ?_⟩) hHeld ?_ ?_
                                  rotate_left
                                  · rintro w' ⟨s0, s1, s2, s3, s4, s5, s6, s7⟩
                                    go_simp
                                    with_reducible rfl
                                  rotate_left
                                  · simp only [Act.put, List.setIfInBounds_toArray, List.set_cons_zero, List.set_cons_succ, i64_w, i32_w]
                                    rfl
                                  refine take_ (i := 7) (N := some 88) (v := ?_) (a' := ?_) #[true, true, true, true, true, true, true, true, true, false, true, false, false, false, false, false, false] rfl rfl (take_ofW HT_.out HW_.out (by kernel_rfl)) (fun _ _ _ h => h) (Or.inl ⟨by rfl, ?_⟩) hHeld ?_ ?_
                                  rotate_left
                                  · rintro w' ⟨s0, s1, s2, s3, s4, s5, s6, s7⟩
                                    go_simp
                                    with_reducible rfl
                                  rotate_left
                                  · simp only [Act.put, List.setIfInBounds_toArray, List.set_cons_zero, List.set_cons_succ, i64_w, i32_w]
                                    rfl
                                  refine take_ (i := 9) (N := some 90) (v := ?_) (a' := ?_) #[true, true, true, true, true, true, true, true, true, true, true, false, false, false, false, false, false] rfl rfl (take_ofW HT_.out HW_.out (by kernel_rfl)) (fun _ _ _ h => h) (Or.inl ⟨by rfl, ?_⟩) hHeld ?_ ?_
                                  rotate_left
                                  · rintro w' ⟨s0, s1, s2, s3, s4, s5, s6, s7⟩
                                    go_simp
                                    with_reducible rfl
                                  rotate_left
                                  · simp only [Act.put, List.setIfInBounds_toArray, List.set_cons_zero, List.set_cons_succ, i64_w, i32_w]
                                    rfl
                                  refine take_ (i := 11) (N := some 92) (v := ?_) (a' := ?_) #[true, true, true, true, true, true, true, true, true, true, true, true, false, false, false, false, false] rfl rfl (take_ofW HT_.out HW_.out (by kernel_rfl)) (fun _ _ _ h => h) (Or.inl ⟨by rfl, ?_⟩) hHeld ?_ ?_
                                  rotate_left
                                  · rintro w' ⟨s0, s1, s2, s3, s4, s5, s6, s7⟩
                                    go_simp
                                    with_reducible rfl
                                  rotate_left
                                  · simp only [Act.put, List.setIfInBounds_toArray, List.set_cons_zero, List.set_cons_succ, i64_w, i32_w]
                                    rfl
                                  refine one_ (i := 12) (N := some 93) #[true, true, true, true, true, true, true, true, true, true, true, true, true, false, false, false, false] rfl rfl (one_of HT_.out (by kernel_rfl)) (by decide) (fun K hK => ?_)
                                  refine goes_ Try.func20 (by kernel_rfl) rfl #[.int .i64 ((rd_T45 y176 0).f0), .int .i64 ((rd_T45 y176 1).f0), .int .i64 x182000_42, .int .i64 x183000_4] (by rfl) rfl rfl (by (try simp only [List.map_toArray, List.map_cons, List.map_nil]); first | done | rfl | (simp only [List.length_drop, List.length_take]; rfl)) ?_
                                  with_reducible refine (clock_Make.calls k4 ((rd_T45 y176 0).f0) ((rd_T45 y176 1).f0) x182000_42 x183000_4 t186 t187 _ A80.out).mono ?_
                                  rintro e w' ⟨rfl, ⟨nd, rfl⟩⟩
                                  refine ⟨_, rfl, ?_⟩
                                  refine hK.out _ _ ⟨(blk_cell BK181.out 0).trans rfl, (blk_cell BK181.out 1).trans rfl, (blk_cell BK182.out 0).trans rfl, (blk_cell BK182.out 1).trans rfl, hHeld.2.2.2.2.1, hHeld.2.2.2.2.2.1, hHeld.2.2.2.2.2.2.1, hHeld.2.2.2.2.2.2.2⟩ (fun hHeld => ?_)
                                  clear hK K
                                  refine norm_ (a' := ?_) ?_ ?_
                                  rotate_left
                                  · show Act.put _ (some 93) _ = _
                                    simp only [Act.put, List.setIfInBounds_toArray, List.set_cons_zero, List.set_cons_succ, i64_w, i32_w]
                                    rfl
                                  refine pure_ (i := 13) (N := some 94) (v := ?_) (a' := ?_) #[true, true, true, true, true, true, true, true, true, true, true, true, true, true, false, false, false] rfl rfl (any_of HT_.out (by kernel_rfl)) (fun _ _ _ h => h) (Or.inl ⟨by rfl, ?_⟩) ?_ ?_
                                  rotate_left
                                  · intro w'
                                    go_simp
                                    with_reducible rfl
                                  rotate_left
                                  · simp only [Act.put, List.setIfInBounds_toArray, List.set_cons_zero, List.set_cons_succ, i64_w, i32_w]
                                    rfl
                                  refine pure_ (i := 14) (N := some 95) (v := ?_) (a' := ?_) #[true, true, true, true, true, true, true, true, true, true, true, true, true, true, true, false, false] rfl rfl (any_of HT_.out (by kernel_rfl)) (fun _ _ _ h => h) (Or.inl ⟨by rfl, ?_⟩) ?_ ?_
                                  rotate_left
                                  · intro w'
                                    go_simp
                                    with_reducible rfl
                                  rotate_left
                                  · simp only [Act.put, List.setIfInBounds_toArray, List.set_cons_zero, List.set_cons_succ, i64_w, i32_w]
                                    rfl
                                  refine pure_ (i := 15) (N := some 2) (v := ?_) (a' := ?_) #[true, true, true, true, true, true, true, true, true, true, true, true, true, true, true, true, false] rfl rfl (any_of HT_.out (by kernel_rfl)) (fun _ _ _ h => h) (Or.inl ⟨by rfl, ?_⟩) ?_ ?_
                                  rotate_left
                                  · intro w'
                                    go_simp
                                    with_reducible rfl
                                  rotate_left
                                  · simp only [Act.put, List.setIfInBounds_toArray, List.set_cons_zero, List.set_cons_succ, i64_w, i32_w]
                                    rfl
                                  refine pure_ (i := 16) (N := some 3) (v := ?_) (a' := ?_) #[true, true, true, true, true, true, true, true, true, true, true, true, true, true, true, true, true] rfl rfl (any_of HT_.out (by kernel_rfl)) (fun _ _ _ h => h) (Or.inl ⟨by rfl, ?_⟩) ?_ ?_
                                  rotate_left
                                  · intro w'
                                    go_simp
                                    with_reducible rfl
                                  rotate_left
                                  · simp only [Act.put, List.setIfInBounds_toArray, List.set_cons_zero, List.set_cons_succ, i64_w, i32_w]
                                    rfl
                                  refine done_ (done_of HT_.out (by kernel_rfl)) ?_
                                  try go_wp2
                                  go_ret2
                                  exact ⟨by first | rfl | (simp [errW_none, errW_some] <;> rfl) | (simp [*, errW_none, errW_some] <;> rfl), by repeat (first | (with_reducible first | exact HB.out | apply below_alloc | apply pw_below_drewN | apply below_drew1 | refine below_set ?_ GE181.out | refine below_set ?_ GE182.out) | exact HB.out)⟩
                                · rw [if_neg c79] at H
                                  exact absurd H (by simp)
                              · rw [if_neg c78] at H
                                exact absurd H (by simp)
            · rw [if_neg c42] at H
              exact absurd H (by simp)
          · rw [if_neg c41] at H
            exact absurd H (by simp)
        · rw [if_neg c40] at H
          exact absurd H (by simp)

end Go.Proofs.Ytecijnjnhdjokaa.PClock
