-- Written by a program of this session (mkprint.py, over the kit's print), out of the translation and of the contracts that the session gives.
import Derived.Test.YtecijnjnhdjokaaPClockFx0
import Derived.Test.YtecijnjnhdjokaaPClockFx1
import Derived.Test.YtecijnjnhdjokaaPClockFx2
namespace Go.Proofs.Ytecijnjnhdjokaa.PClockF
open Go.RowKit Go.Proofs.YtecijnjnhdjokaaW.PrintWords Go.Proofs.YtecijnjnhdjokaaW.PrintLast Go.Proofs.YtecijnjnhdjokaaW.PrintMore
attribute [local go_sem] max2_int min2_int max_two min_two max_three min_three max_four min_four   -- for this text's walks alone
set_option linter.unusedVariables false
set_option linter.unusedSimpArgs false

/-! ### clock_Read: function 18 -/
mutual
def clock_Read.j0 : Nat → List (S45) → ByteArray → Bool → Option (Int × Int)
  | 0, _, _, _ => none
  | k + 1, x4, x5, x42 => if x42 = true then (some (0, 13)) else ((some (([(⟨0, 2⟩ : S45), (⟨0, 6⟩ : S45)] : List (S45)) : List (S45))).bind fun y143 => (if x4.length + y143.length < 8796093022208 then ((some (x4 ++ y143 : List (S45))).bind fun y146 => (if 2 < (y146.length : Int) then (if 3 < (y146.length : Int) then (if x5.toList = ([58] : List UInt8) then (clock_Read.j1 k y146 0 2 0 6) else (if x5.toList = ([58, 58] : List UInt8) then (clock_Read.j1 k y146 ((rd_T45 y146 2).f0) ((rd_T45 y146 2).f1) 0 6) else (clock_Read.j1 k y146 ((rd_T45 y146 2).f0) ((rd_T45 y146 2).f1) ((rd_T45 y146 3).f0) ((rd_T45 y146 3).f1)))) else (none)) else (none))) else (none)))
def clock_Read.j1 : Nat → List (S45) → Int → Int → Int → Int → Option (Int × Int)
  | 0, _, _, _, _, _ => none
  | k + 1, x4, x152000, x152001, x153000, x153001 => (clock_group_two.f x152000 x152001).bind fun t153 => (if t153 = true then (clock_Read.j2 k x4 (x153001 == 0) x152000 x152001 x153000 x153001) else (clock_Read.j2 k x4 true x152000 x152001 x153000 x153001))
def clock_Read.j2 : Nat → List (S45) → Bool → Int → Int → Int → Int → Option (Int × Int)
  | 0, _, _, _, _, _, _ => none
  | k + 1, x4, x69, x152000, x152001, x153000, x153001 => if x69 = true then (some (0, 13)) else (clock_Read.l0 k x4 x152000 x152001 x153000 x153001)
def clock_Read.l0 : Nat → List (S45) → Int → Int → Int → Int → Option (Int × Int)
  | 0, _, _, _, _, _ => none
  | k + 1, x4, x152000, x152001, x153000, x153001 => if x153001 < 6 then (clock_Read.l0 k x4 x152000 x152001 (wrap64 (x153000 * 10)) (wrap64 (x153001 + 1))) else (if 0 < (x4.length : Int) then (if 1 < (x4.length : Int) then ((clock_Make.f k ((rd_T45 x4 0).f0) ((rd_T45 x4 1).f0) x152000 x153000).bind fun bt156 => (some (bt156.1, bt156.2))) else (none)) else (none))
end
def clock_Read.f (k : Nat) (a0 : ByteArray) : Option (Int × Int) := (clock_groups.f a0).bind fun bt126 => (if bt126.2.2 = true then (if bt126.2.1.toList = ([58] : List UInt8) then (if 0 < (bt126.1.length : Int) then ((clock_group_one.f ((rd_T45 bt126.1 0).f0) ((rd_T45 bt126.1 0).f1)).bind fun t132 => (if t132 = true then (if 1 < (bt126.1.length : Int) then ((clock_group_two.f ((rd_T45 bt126.1 1).f0) ((rd_T45 bt126.1 1).f1)).bind fun t134 => (clock_Read.j0 k bt126.1 bt126.2.1 (!t134))) else (none)) else (clock_Read.j0 k bt126.1 bt126.2.1 true))) else (none)) else (if bt126.2.1.toList = ([58, 58] : List UInt8) then (if 0 < (bt126.1.length : Int) then ((clock_group_one.f ((rd_T45 bt126.1 0).f0) ((rd_T45 bt126.1 0).f1)).bind fun t136 => (if t136 = true then (if 1 < (bt126.1.length : Int) then ((clock_group_two.f ((rd_T45 bt126.1 1).f0) ((rd_T45 bt126.1 1).f1)).bind fun t138 => (clock_Read.j0 k bt126.1 bt126.2.1 (!t138))) else (none)) else (clock_Read.j0 k bt126.1 bt126.2.1 true))) else (none)) else (if bt126.2.1.toList = ([58, 58, 46] : List UInt8) then (if 0 < (bt126.1.length : Int) then ((clock_group_one.f ((rd_T45 bt126.1 0).f0) ((rd_T45 bt126.1 0).f1)).bind fun t140 => (if t140 = true then (if 1 < (bt126.1.length : Int) then ((clock_group_two.f ((rd_T45 bt126.1 1).f0) ((rd_T45 bt126.1 1).f1)).bind fun t142 => (clock_Read.j0 k bt126.1 bt126.2.1 (!t142))) else (none)) else (clock_Read.j0 k bt126.1 bt126.2.1 true))) else (none)) else (clock_Read.j0 k bt126.1 bt126.2.1 true)))) else (clock_Read.j0 k bt126.1 bt126.2.1 true))
theorem clock_Read.mono_l : ∀ k, (∀ y0 y1 y2, LeO (clock_Read.j0 k y0 y1 y2) (clock_Read.j0 (k + 1) y0 y1 y2)) ∧ (∀ y0 y1 y2 y3 y4, LeO (clock_Read.j1 k y0 y1 y2 y3 y4) (clock_Read.j1 (k + 1) y0 y1 y2 y3 y4)) ∧ (∀ y0 y1 y2 y3 y4 y5, LeO (clock_Read.j2 k y0 y1 y2 y3 y4 y5) (clock_Read.j2 (k + 1) y0 y1 y2 y3 y4 y5)) ∧ (∀ y0 y1 y2 y3 y4, LeO (clock_Read.l0 k y0 y1 y2 y3 y4) (clock_Read.l0 (k + 1) y0 y1 y2 y3 y4))
  | 0 => ⟨fun _ _ _ r h => by simp [clock_Read.j0] at h, fun _ _ _ _ _ r h => by simp [clock_Read.j1] at h, fun _ _ _ _ _ _ r h => by simp [clock_Read.j2] at h, fun _ _ _ _ _ r h => by simp [clock_Read.l0] at h⟩
  | k + 1 => by
    obtain ⟨ih0, ih1, ih2, ih3⟩ := clock_Read.mono_l k
    refine ⟨?_, ?_, ?_, ?_⟩
    · intro y0 y1 y2
      unfold clock_Read.j0
      repeat' first
      | (with_reducible exact ih0 _ _ _)
      | (with_reducible exact ih1 _ _ _ _ _)
      | (with_reducible exact ih2 _ _ _ _ _ _)
      | (with_reducible exact ih3 _ _ _ _ _)
      | (with_reducible exact clock_Make.mono _ _ _ _ _)
      | (with_reducible exact LeO.refl _)
      | (with_reducible exact LeO.none _)
      | (with_reducible refine LeO.ite ?_ ?_)
      | (with_reducible refine LeO.bind ?_ (fun _ => ?_))
      | exact ih0 _ _ _
      | exact ih1 _ _ _ _ _
      | exact ih2 _ _ _ _ _ _
      | exact ih3 _ _ _ _ _
      | exact clock_Make.mono _ _ _ _ _
      | exact LeO.none _
      | refine LeO.ite ?_ ?_
      | refine LeO.bind ?_ (fun _ => ?_)
    · intro y0 y1 y2 y3 y4
      unfold clock_Read.j1
      repeat' first
      | (with_reducible exact ih0 _ _ _)
      | (with_reducible exact ih1 _ _ _ _ _)
      | (with_reducible exact ih2 _ _ _ _ _ _)
      | (with_reducible exact ih3 _ _ _ _ _)
      | (with_reducible exact clock_Make.mono _ _ _ _ _)
      | (with_reducible exact LeO.refl _)
      | (with_reducible exact LeO.none _)
      | (with_reducible refine LeO.ite ?_ ?_)
      | (with_reducible refine LeO.bind ?_ (fun _ => ?_))
      | exact ih0 _ _ _
      | exact ih1 _ _ _ _ _
      | exact ih2 _ _ _ _ _ _
      | exact ih3 _ _ _ _ _
      | exact clock_Make.mono _ _ _ _ _
      | exact LeO.none _
      | refine LeO.ite ?_ ?_
      | refine LeO.bind ?_ (fun _ => ?_)
    · intro y0 y1 y2 y3 y4 y5
      unfold clock_Read.j2
      repeat' first
      | (with_reducible exact ih0 _ _ _)
      | (with_reducible exact ih1 _ _ _ _ _)
      | (with_reducible exact ih2 _ _ _ _ _ _)
      | (with_reducible exact ih3 _ _ _ _ _)
      | (with_reducible exact clock_Make.mono _ _ _ _ _)
      | (with_reducible exact LeO.refl _)
      | (with_reducible exact LeO.none _)
      | (with_reducible refine LeO.ite ?_ ?_)
      | (with_reducible refine LeO.bind ?_ (fun _ => ?_))
      | exact ih0 _ _ _
      | exact ih1 _ _ _ _ _
      | exact ih2 _ _ _ _ _ _
      | exact ih3 _ _ _ _ _
      | exact clock_Make.mono _ _ _ _ _
      | exact LeO.none _
      | refine LeO.ite ?_ ?_
      | refine LeO.bind ?_ (fun _ => ?_)
    · intro y0 y1 y2 y3 y4
      unfold clock_Read.l0
      repeat' first
      | (with_reducible exact ih0 _ _ _)
      | (with_reducible exact ih1 _ _ _ _ _)
      | (with_reducible exact ih2 _ _ _ _ _ _)
      | (with_reducible exact ih3 _ _ _ _ _)
      | (with_reducible exact clock_Make.mono _ _ _ _ _)
      | (with_reducible exact LeO.refl _)
      | (with_reducible exact LeO.none _)
      | (with_reducible refine LeO.ite ?_ ?_)
      | (with_reducible refine LeO.bind ?_ (fun _ => ?_))
      | exact ih0 _ _ _
      | exact ih1 _ _ _ _ _
      | exact ih2 _ _ _ _ _ _
      | exact ih3 _ _ _ _ _
      | exact clock_Make.mono _ _ _ _ _
      | exact LeO.none _
      | refine LeO.ite ?_ ?_
      | refine LeO.bind ?_ (fun _ => ?_)
theorem clock_Read.mono : ∀ a0 k, LeO (clock_Read.f k a0) (clock_Read.f (k + 1) a0) := by
  intro a0 k
  obtain ⟨ih0, ih1, ih2, ih3⟩ := clock_Read.mono_l k
  unfold clock_Read.f
  repeat' first
      | (with_reducible exact ih0 _ _ _)
      | (with_reducible exact ih1 _ _ _ _ _)
      | (with_reducible exact ih2 _ _ _ _ _ _)
      | (with_reducible exact ih3 _ _ _ _ _)
      | (with_reducible exact clock_Make.mono _ _ _ _ _)
      | (with_reducible exact LeO.refl _)
      | (with_reducible exact LeO.none _)
      | (with_reducible refine LeO.ite ?_ ?_)
      | (with_reducible refine LeO.bind ?_ (fun _ => ?_))
      | exact ih0 _ _ _
      | exact ih1 _ _ _ _ _
      | exact ih2 _ _ _ _ _ _
      | exact ih3 _ _ _ _ _
      | exact clock_Make.mono _ _ _ _ _
      | exact LeO.none _
      | refine LeO.ite ?_ ?_
      | refine LeO.bind ?_ (fun _ => ?_)
def clock_Read.T5 : Bool × List (List Nat × List Nat) := (true, [([], []), ([0], [0]), ([1], [1]), ([], []), ([3], [3]), ([4], [4]), ([], []), ([], []), ([6, 2, 0, 1, 2, 6, 7], [2, 6]), ([7, 5, 8, 0, 1, 2, 3, 4, 5, 6, 7, 8], [5, 7])])
def clock_Read.B5 : List Nat := [0, 1, 3, 0, 8, 24, 0, 0, 199, 511]
theorem clock_Read.tab5 : rtab .any (opsOf Try.f18 5) = clock_Read.T5 := by kernel_rfl
theorem clock_Read.bits5 : waitsOk clock_Read.T5.2 clock_Read.B5 = true := by kernel_rfl
def clock_Read.T16 : Bool × List (List Nat × List Nat) := (true, [([], []), ([0], [0]), ([1], [1]), ([2], [2]), ([], []), ([4], [4]), ([5], [5]), ([6], [6]), ([], []), ([8], [8]), ([], []), ([10], [10]), ([3, 7, 9, 11], [3, 7, 9, 11]), ([12], [12]), ([12], [12]), ([13, 12, 0, 1, 2, 3, 4, 5, 6, 7, 8, 9, 10, 11, 12, 13, 14], [13]), ([14, 15, 0, 1, 2, 3, 4, 5, 6, 7, 8, 9, 10, 11, 12, 13, 14, 15], [14])])
def clock_Read.B16 : List Nat := [0, 1, 3, 7, 0, 16, 48, 112, 0, 256, 0, 1024, 4095, 8191, 8191, 32767, 65535]
theorem clock_Read.tab16 : rtab .any (opsOf Try.f18 16) = clock_Read.T16 := by kernel_rfl
theorem clock_Read.bits16 : waitsOk clock_Read.T16.2 clock_Read.B16 = true := by kernel_rfl
set_option maxHeartbeats 8000000 in
set_option maxRecDepth 100000 in
theorem clock_Read.calls (k : Nat) (a0 : ByteArray) (r1 : Int) (r2 : Int) (w : World) (h : clock_Read.f k a0 = some (r1, r2)) :
    Calls Try.prog 18 #[.string a0] w fun e w' => e = .returned (.tuple #[.int .i64 r1, .int .i64 r2]) ∧ Below w.heap.size w w' := by
  have hu45 := Try.underlying45
  have HB := Aside0.mk (Below.refl w.heap.size w)
  have H : ((clock_groups.f a0).bind fun bt126 => (if bt126.2.2 = true then (if bt126.2.1.toList = ([58] : List UInt8) then (if 0 < (bt126.1.length : Int) then ((clock_group_one.f ((rd_T45 bt126.1 0).f0) ((rd_T45 bt126.1 0).f1)).bind fun t132 => (if t132 = true then (if 1 < (bt126.1.length : Int) then ((clock_group_two.f ((rd_T45 bt126.1 1).f0) ((rd_T45 bt126.1 1).f1)).bind fun t134 => (clock_Read.j0 k bt126.1 bt126.2.1 (!t134))) else (none)) else (clock_Read.j0 k bt126.1 bt126.2.1 true))) else (none)) else (if bt126.2.1.toList = ([58, 58] : List UInt8) then (if 0 < (bt126.1.length : Int) then ((clock_group_one.f ((rd_T45 bt126.1 0).f0) ((rd_T45 bt126.1 0).f1)).bind fun t136 => (if t136 = true then (if 1 < (bt126.1.length : Int) then ((clock_group_two.f ((rd_T45 bt126.1 1).f0) ((rd_T45 bt126.1 1).f1)).bind fun t138 => (clock_Read.j0 k bt126.1 bt126.2.1 (!t138))) else (none)) else (clock_Read.j0 k bt126.1 bt126.2.1 true))) else (none)) else (if bt126.2.1.toList = ([58, 58, 46] : List UInt8) then (if 0 < (bt126.1.length : Int) then ((clock_group_one.f ((rd_T45 bt126.1 0).f0) ((rd_T45 bt126.1 0).f1)).bind fun t140 => (if t140 = true then (if 1 < (bt126.1.length : Int) then ((clock_group_two.f ((rd_T45 bt126.1 1).f0) ((rd_T45 bt126.1 1).f1)).bind fun t142 => (clock_Read.j0 k bt126.1 bt126.2.1 (!t142))) else (none)) else (clock_Read.j0 k bt126.1 bt126.2.1 true))) else (none)) else (clock_Read.j0 k bt126.1 bt126.2.1 true)))) else (clock_Read.j0 k bt126.1 bt126.2.1 true))) = some (r1, r2) := h
  clear h
  replace H := Option.bind_eq_some_iff.mp H
  obtain ⟨⟨t126, t127, t128⟩, A20, H⟩ := H
  replace H : (if t128 = true then (if t127.toList = ([58] : List UInt8) then (if 0 < (t126.length : Int) then ((clock_group_one.f ((rd_T45 t126 0).f0) ((rd_T45 t126 0).f1)).bind fun t132 => (if t132 = true then (if 1 < (t126.length : Int) then ((clock_group_two.f ((rd_T45 t126 1).f0) ((rd_T45 t126 1).f1)).bind fun t134 => (clock_Read.j0 k t126 t127 (!t134))) else (none)) else (clock_Read.j0 k t126 t127 true))) else (none)) else (if t127.toList = ([58, 58] : List UInt8) then (if 0 < (t126.length : Int) then ((clock_group_one.f ((rd_T45 t126 0).f0) ((rd_T45 t126 0).f1)).bind fun t136 => (if t136 = true then (if 1 < (t126.length : Int) then ((clock_group_two.f ((rd_T45 t126 1).f0) ((rd_T45 t126 1).f1)).bind fun t138 => (clock_Read.j0 k t126 t127 (!t138))) else (none)) else (clock_Read.j0 k t126 t127 true))) else (none)) else (if t127.toList = ([58, 58, 46] : List UInt8) then (if 0 < (t126.length : Int) then ((clock_group_one.f ((rd_T45 t126 0).f0) ((rd_T45 t126 0).f1)).bind fun t140 => (if t140 = true then (if 1 < (t126.length : Int) then ((clock_group_two.f ((rd_T45 t126 1).f0) ((rd_T45 t126 1).f1)).bind fun t142 => (clock_Read.j0 k t126 t127 (!t142))) else (none)) else (clock_Read.j0 k t126 t127 true))) else (none)) else (clock_Read.j0 k t126 t127 true)))) else (clock_Read.j0 k t126 t127 true)) = some (r1, r2) := H
  have A2 := Aside0.mk A20
  clear A20
  have HC3 := Aside0.mk H
  clear H
  go_enter Try.func18, Try.ntmps18
  go_upto_region 2 with (first | ((with_reducible refine gate_callee (f := 33) rfl ?_); refine goesL_ (some 11) rfl rfl Try.func33 (by kernel_rfl) rfl #[.string a0] rfl (by (try simp only [List.map_toArray, List.map_cons, List.map_nil]); first | done | rfl | (simp only [List.length_drop, List.length_take]; rfl)) ?_; (with_reducible refine (clock_groups.calls a0 t126 t127 t128 _ A2.out).mono ?_); rintro e w4 ⟨v129, rfl, ho0, hb⟩; refine ⟨_, rfl, ?_⟩; have n0_ := Aside0.mk (Kd.R_lower ho0 (below_size (by repeat (first | (with_reducible first | exact HB.out | apply below_alloc | apply pw_below_drewN | apply below_drew1) | exact HB.out)))); have n1_ := Aside0.mk (below_step (by repeat (first | (with_reducible first | exact HB.out | apply below_alloc | apply pw_below_drewN | apply below_drew1) | exact HB.out)) hb); clear HB; have HO130 := n0_; have HB := n1_; clear n0_ n1_; (try clear hb); (try clear hb2); (try clear hk); (try clear hi); (try clear ho0)))
  (try simp only [Act.put, List.setIfInBounds_toArray, List.set_cons_zero, List.set_cons_succ])
  go_cut [42] (fun v42 wc => ∃ (kq : Nat) (x42_2 : Bool), v42 = .bool x42_2 ∧ Aside0 (clock_Read.j0 kq t126 t127 x42_2 = some (r1, r2)) ∧ Aside0 (kq ≤ k) ∧ Aside0 (Kd.R k45 45 wc w.heap.size (fun _ => True) v129 t126) ∧ Aside0 (Below w.heap.size w wc))
  case first =>
    have H := HC3.out
    clear HC3
    by_cases c5 : t128 = true
    · subst c5
      have H1 : (if t127.toList = ([58] : List UInt8) then (if 0 < (t126.length : Int) then ((clock_group_one.f ((rd_T45 t126 0).f0) ((rd_T45 t126 0).f1)).bind fun t132 => (if t132 = true then (if 1 < (t126.length : Int) then ((clock_group_two.f ((rd_T45 t126 1).f0) ((rd_T45 t126 1).f1)).bind fun t134 => (clock_Read.j0 k t126 t127 (!t134))) else (none)) else (clock_Read.j0 k t126 t127 true))) else (none)) else (if t127.toList = ([58, 58] : List UInt8) then (if 0 < (t126.length : Int) then ((clock_group_one.f ((rd_T45 t126 0).f0) ((rd_T45 t126 0).f1)).bind fun t136 => (if t136 = true then (if 1 < (t126.length : Int) then ((clock_group_two.f ((rd_T45 t126 1).f0) ((rd_T45 t126 1).f1)).bind fun t138 => (clock_Read.j0 k t126 t127 (!t138))) else (none)) else (clock_Read.j0 k t126 t127 true))) else (none)) else (if t127.toList = ([58, 58, 46] : List UInt8) then (if 0 < (t126.length : Int) then ((clock_group_one.f ((rd_T45 t126 0).f0) ((rd_T45 t126 0).f1)).bind fun t140 => (if t140 = true then (if 1 < (t126.length : Int) then ((clock_group_two.f ((rd_T45 t126 1).f0) ((rd_T45 t126 1).f1)).bind fun t142 => (clock_Read.j0 k t126 t127 (!t142))) else (none)) else (clock_Read.j0 k t126 t127 true))) else (none)) else (clock_Read.j0 k t126 t127 true)))) = some (r1, r2) := by rw [if_pos rfl] at H; exact H
      clear H
      have H := H1
      clear H1
      by_cases c6 : t127.toList = ([58] : List UInt8)
      · rw [if_pos c6] at H
        have c6b0 : (t127.toList == ([58] : List UInt8)) = true := beq_iff_eq.mpr c6
        have c6b1 : (t127.toList != ([58] : List UInt8)) = false := bne_eq_false_iff_eq.mpr c6
        clear c6
        (first | rw [c6b0] | (simp only [i64_w, i32_w]; rw [c6b0]) | skip)
        by_cases c7 : 0 < (t126.length : Int)
        · rw [if_pos c7] at H
          have c7b0 : decide (0 < (t126.length : Int)) = true := decide_eq_true c7
          have c7b1 : decide (0 < t126.length) = true := decide_eq_true (by omega)
          clear c7
          replace H := Option.bind_eq_some_iff.mp H
          obtain ⟨t132, A80, H⟩ := H
          replace H : (if t132 = true then (if 1 < (t126.length : Int) then ((clock_group_two.f ((rd_T45 t126 1).f0) ((rd_T45 t126 1).f1)).bind fun t134 => (clock_Read.j0 k t126 t127 (!t134))) else (none)) else (clock_Read.j0 k t126 t127 true)) = some (r1, r2) := H
          have A8 := Aside0.mk A80
          clear A80
          by_cases c9 : t132 = true
          · subst c9
            have H1 : (if 1 < (t126.length : Int) then ((clock_group_two.f ((rd_T45 t126 1).f0) ((rd_T45 t126 1).f1)).bind fun t134 => (clock_Read.j0 k t126 t127 (!t134))) else (none)) = some (r1, r2) := by rw [if_pos rfl] at H; exact H
            clear H
            have H := H1
            clear H1
            by_cases c10 : 1 < (t126.length : Int)
            · rw [if_pos c10] at H
              have c10b0 : decide (1 < (t126.length : Int)) = true := decide_eq_true c10
              have c10b1 : decide (1 < t126.length) = true := decide_eq_true (by omega)
              clear c10
              replace H := Option.bind_eq_some_iff.mp H
              obtain ⟨t134, A110, H⟩ := H
              replace H : (clock_Read.j0 k t126 t127 (!t134)) = some (r1, r2) := H
              have A11 := Aside0.mk A110
              clear A110
              have H' := Aside0.mk H
              clear H
              obtain ⟨Ao12, co12, eo12⟩ := Kd.R_slice HO130.out
              subst eo12
              have p131 : 0 ≤ (0 : Int) := (by omega)
              have q131 : 0 < (t126.length : Int) := of_decide_eq_true (by first | (with_reducible assumption) | assumption)
              obtain ⟨ad131, e131, hx131_0, hx131_1⟩ := at_T45 (Kd.R_reads' HO130.out).2.2 0 p131 q131
              cases e131
              have qi131 : (0 < t126.length) = True := eq_true (by omega)
              (try rw [show ((0 : Int)).toNat = 0 from rfl] at hx131_0)
              (try rw [show 0 * 2 = 0 from rfl] at hx131_0)
              (try rw [Addr.add_zero'] at hx131_0)
              (try rw [show ((0 : Int)).toNat = 0 from rfl] at hx131_1)
              (try rw [show 0 * 2 = 0 from rfl] at hx131_1)
              (try rw [Addr.add_zero'] at hx131_1)
              replace p131 := eq_true p131
              replace q131 := eq_true q131
              go_wp2_with (first | (go_at_call 34; (with_reducible refine (clock_group_one.calls ((rd_T45 t126 0).f0) ((rd_T45 t126 0).f1) true _ A8.out).mono ?_); rintro e w13 ⟨rfl, hb⟩; have n0_ := Aside0.mk (Kd.R_below (by (with_reducible repeat (first | apply Kd.R_alloc | apply Kd.R_drewN | apply Kd.R_drew)); exact HO130.out) hb); have n1_ := Aside0.mk (below_step (by repeat (first | (with_reducible first | exact HB.out | apply below_alloc | apply pw_below_drewN | apply below_drew1) | exact HB.out)) hb); clear HO130; clear HB; have HO130 := n0_; have HB := n1_; clear n0_ n1_; (try clear hb); (try clear hb2); (try clear hk); (try clear hi); have p133 : 0 ≤ (1 : Int) := (by omega); have q133 : 1 < (t126.length : Int) := of_decide_eq_true (by first | (with_reducible assumption) | assumption); obtain ⟨ad133, e133, hx133_0, hx133_1⟩ := at_T45 (Kd.R_reads' HO130.out).2.2 1 p133 q133; obtain rfl : ad131 = ad133 := (by injection e133); (try simp only [show (1 : Int).toNat = 1 from rfl, Nat.reduceMul, Nat.reduceEqDiff, Go.Addr.add, ↓reduceIte] at hx133_0); (try simp only [show (1 : Int).toNat = 1 from rfl, Nat.reduceMul, Nat.reduceEqDiff, Go.Addr.add, ↓reduceIte] at hx133_1); have qi133 : (1 < t126.length) = True := eq_true (by omega); (try rw [show ((1 : Int)).toNat = 1 from rfl] at hx133_0); (try rw [show 1 * 2 = 2 from rfl] at hx133_0); (try rw [show ((1 : Int)).toNat = 1 from rfl] at hx133_1); (try rw [show 1 * 2 = 2 from rfl] at hx133_1); replace p133 := eq_true p133; replace q133 := eq_true q133) | (go_at_call 35; (with_reducible refine (clock_group_two.calls ((rd_T45 t126 1).f0) ((rd_T45 t126 1).f1) t134 _ A11.out).mono ?_); rintro e w14 ⟨rfl, hb⟩; have n0_ := Aside0.mk (Kd.R_below (by (with_reducible repeat (first | apply Kd.R_alloc | apply Kd.R_drewN | apply Kd.R_drew)); exact HO130.out) hb); have n1_ := Aside0.mk (below_step (by repeat (first | (with_reducible first | exact HB.out | apply below_alloc | apply pw_below_drewN | apply below_drew1) | exact HB.out)) hb); clear HO130; clear HB; have HO130 := n0_; have HB := n1_; clear n0_ n1_; (try clear hb); (try clear hb2); (try clear hk); (try clear hi)))
              go_meet
              case rel => exact ⟨_, (!t134), (by first | rfl | (simp; done) | (simp [*]; done)), H', ⟨by first | omega | exact Nat.le_refl _⟩, ⟨by (with_reducible repeat (first | apply Kd.R_alloc | apply Kd.R_drewN | apply Kd.R_drew)); exact HO130.out⟩, ⟨by repeat (first | (with_reducible first | exact HB.out | apply below_alloc | apply pw_below_drewN | apply below_drew1) | exact HB.out)⟩⟩
            · rw [if_neg c10] at H
              exact absurd H (by simp)
          · replace c9 := Bool.eq_false_iff.mpr c9
            subst c9
            have H1 : (clock_Read.j0 k t126 t127 true) = some (r1, r2) := by rw [if_neg (show ¬ (false = true) by decide)] at H; exact H
            clear H
            have H := H1
            clear H1
            have H' := Aside0.mk H
            clear H
            obtain ⟨Ao15, co15, eo15⟩ := Kd.R_slice HO130.out
            subst eo15
            have p131 : 0 ≤ (0 : Int) := (by omega)
            have q131 : 0 < (t126.length : Int) := of_decide_eq_true (by first | (with_reducible assumption) | assumption)
            obtain ⟨ad131, e131, hx131_0, hx131_1⟩ := at_T45 (Kd.R_reads' HO130.out).2.2 0 p131 q131
            cases e131
            have qi131 : (0 < t126.length) = True := eq_true (by omega)
            (try rw [show ((0 : Int)).toNat = 0 from rfl] at hx131_0)
            (try rw [show 0 * 2 = 0 from rfl] at hx131_0)
            (try rw [Addr.add_zero'] at hx131_0)
            (try rw [show ((0 : Int)).toNat = 0 from rfl] at hx131_1)
            (try rw [show 0 * 2 = 0 from rfl] at hx131_1)
            (try rw [Addr.add_zero'] at hx131_1)
            replace p131 := eq_true p131
            replace q131 := eq_true q131
            go_wp2_with (first | (go_at_call 34; (with_reducible refine (clock_group_one.calls ((rd_T45 t126 0).f0) ((rd_T45 t126 0).f1) false _ A8.out).mono ?_); rintro e w16 ⟨rfl, hb⟩; have n0_ := Aside0.mk (Kd.R_below (by (with_reducible repeat (first | apply Kd.R_alloc | apply Kd.R_drewN | apply Kd.R_drew)); exact HO130.out) hb); have n1_ := Aside0.mk (below_step (by repeat (first | (with_reducible first | exact HB.out | apply below_alloc | apply pw_below_drewN | apply below_drew1) | exact HB.out)) hb); clear HO130; clear HB; have HO130 := n0_; have HB := n1_; clear n0_ n1_; (try clear hb); (try clear hb2); (try clear hk); (try clear hi)))
            go_meet
            case rel => exact ⟨_, (true), (by first | rfl | (simp; done) | (simp [*]; done)), H', ⟨by first | omega | exact Nat.le_refl _⟩, ⟨by (with_reducible repeat (first | apply Kd.R_alloc | apply Kd.R_drewN | apply Kd.R_drew)); exact HO130.out⟩, ⟨by repeat (first | (with_reducible first | exact HB.out | apply below_alloc | apply pw_below_drewN | apply below_drew1) | exact HB.out)⟩⟩
        · rw [if_neg c7] at H
          exact absurd H (by simp)
      · rw [if_neg c6] at H
        have c6b0 : (t127.toList == ([58] : List UInt8)) = false := beq_eq_false_iff_ne.mpr c6
        have c6b1 : (t127.toList != ([58] : List UInt8)) = true := bne_iff_ne.mpr c6
        (first | rw [c6b0] | (simp only [i64_w, i32_w]; rw [c6b0]) | skip)
        by_cases c17 : t127.toList = ([58, 58] : List UInt8)
        · rw [if_pos c17] at H
          have c17b0 : (t127.toList == ([58, 58] : List UInt8)) = true := beq_iff_eq.mpr c17
          have c17b1 : (t127.toList != ([58, 58] : List UInt8)) = false := bne_eq_false_iff_eq.mpr c17
          clear c17
          by_cases c18 : 0 < (t126.length : Int)
          · rw [if_pos c18] at H
            have c18b0 : decide (0 < (t126.length : Int)) = true := decide_eq_true c18
            have c18b1 : decide (0 < t126.length) = true := decide_eq_true (by omega)
            clear c18
            replace H := Option.bind_eq_some_iff.mp H
            obtain ⟨t136, A190, H⟩ := H
            replace H : (if t136 = true then (if 1 < (t126.length : Int) then ((clock_group_two.f ((rd_T45 t126 1).f0) ((rd_T45 t126 1).f1)).bind fun t138 => (clock_Read.j0 k t126 t127 (!t138))) else (none)) else (clock_Read.j0 k t126 t127 true)) = some (r1, r2) := H
            have A19 := Aside0.mk A190
            clear A190
            by_cases c20 : t136 = true
            · subst c20
              have H1 : (if 1 < (t126.length : Int) then ((clock_group_two.f ((rd_T45 t126 1).f0) ((rd_T45 t126 1).f1)).bind fun t138 => (clock_Read.j0 k t126 t127 (!t138))) else (none)) = some (r1, r2) := by rw [if_pos rfl] at H; exact H
              clear H
              have H := H1
              clear H1
              by_cases c21 : 1 < (t126.length : Int)
              · rw [if_pos c21] at H
                have c21b0 : decide (1 < (t126.length : Int)) = true := decide_eq_true c21
                have c21b1 : decide (1 < t126.length) = true := decide_eq_true (by omega)
                clear c21
                replace H := Option.bind_eq_some_iff.mp H
                obtain ⟨t138, A220, H⟩ := H
                replace H : (clock_Read.j0 k t126 t127 (!t138)) = some (r1, r2) := H
                have A22 := Aside0.mk A220
                clear A220
                have H' := Aside0.mk H
                clear H
                obtain ⟨Ao23, co23, eo23⟩ := Kd.R_slice HO130.out
                subst eo23
                have p135 : 0 ≤ (0 : Int) := (by omega)
                have q135 : 0 < (t126.length : Int) := of_decide_eq_true (by first | (with_reducible assumption) | assumption)
                obtain ⟨ad135, e135, hx135_0, hx135_1⟩ := at_T45 (Kd.R_reads' HO130.out).2.2 0 p135 q135
                cases e135
                have qi135 : (0 < t126.length) = True := eq_true (by omega)
                (try rw [show ((0 : Int)).toNat = 0 from rfl] at hx135_0)
                (try rw [show 0 * 2 = 0 from rfl] at hx135_0)
                (try rw [Addr.add_zero'] at hx135_0)
                (try rw [show ((0 : Int)).toNat = 0 from rfl] at hx135_1)
                (try rw [show 0 * 2 = 0 from rfl] at hx135_1)
                (try rw [Addr.add_zero'] at hx135_1)
                replace p135 := eq_true p135
                replace q135 := eq_true q135
                go_wp2_with (first | (go_at_call 34; (with_reducible refine (clock_group_one.calls ((rd_T45 t126 0).f0) ((rd_T45 t126 0).f1) true _ A19.out).mono ?_); rintro e w24 ⟨rfl, hb⟩; have n0_ := Aside0.mk (Kd.R_below (by (with_reducible repeat (first | apply Kd.R_alloc | apply Kd.R_drewN | apply Kd.R_drew)); exact HO130.out) hb); have n1_ := Aside0.mk (below_step (by repeat (first | (with_reducible first | exact HB.out | apply below_alloc | apply pw_below_drewN | apply below_drew1) | exact HB.out)) hb); clear HO130; clear HB; have HO130 := n0_; have HB := n1_; clear n0_ n1_; (try clear hb); (try clear hb2); (try clear hk); (try clear hi); have p137 : 0 ≤ (1 : Int) := (by omega); have q137 : 1 < (t126.length : Int) := of_decide_eq_true (by first | (with_reducible assumption) | assumption); obtain ⟨ad137, e137, hx137_0, hx137_1⟩ := at_T45 (Kd.R_reads' HO130.out).2.2 1 p137 q137; obtain rfl : ad135 = ad137 := (by injection e137); (try simp only [show (1 : Int).toNat = 1 from rfl, Nat.reduceMul, Nat.reduceEqDiff, Go.Addr.add, ↓reduceIte] at hx137_0); (try simp only [show (1 : Int).toNat = 1 from rfl, Nat.reduceMul, Nat.reduceEqDiff, Go.Addr.add, ↓reduceIte] at hx137_1); have qi137 : (1 < t126.length) = True := eq_true (by omega); (try rw [show ((1 : Int)).toNat = 1 from rfl] at hx137_0); (try rw [show 1 * 2 = 2 from rfl] at hx137_0); (try rw [show ((1 : Int)).toNat = 1 from rfl] at hx137_1); (try rw [show 1 * 2 = 2 from rfl] at hx137_1); replace p137 := eq_true p137; replace q137 := eq_true q137) | (go_at_call 35; (with_reducible refine (clock_group_two.calls ((rd_T45 t126 1).f0) ((rd_T45 t126 1).f1) t138 _ A22.out).mono ?_); rintro e w25 ⟨rfl, hb⟩; have n0_ := Aside0.mk (Kd.R_below (by (with_reducible repeat (first | apply Kd.R_alloc | apply Kd.R_drewN | apply Kd.R_drew)); exact HO130.out) hb); have n1_ := Aside0.mk (below_step (by repeat (first | (with_reducible first | exact HB.out | apply below_alloc | apply pw_below_drewN | apply below_drew1) | exact HB.out)) hb); clear HO130; clear HB; have HO130 := n0_; have HB := n1_; clear n0_ n1_; (try clear hb); (try clear hb2); (try clear hk); (try clear hi)))
                go_meet
                case rel => exact ⟨_, (!t138), (by first | rfl | (simp; done) | (simp [*]; done)), H', ⟨by first | omega | exact Nat.le_refl _⟩, ⟨by (with_reducible repeat (first | apply Kd.R_alloc | apply Kd.R_drewN | apply Kd.R_drew)); exact HO130.out⟩, ⟨by repeat (first | (with_reducible first | exact HB.out | apply below_alloc | apply pw_below_drewN | apply below_drew1) | exact HB.out)⟩⟩
              · rw [if_neg c21] at H
                exact absurd H (by simp)
            · replace c20 := Bool.eq_false_iff.mpr c20
              subst c20
              have H1 : (clock_Read.j0 k t126 t127 true) = some (r1, r2) := by rw [if_neg (show ¬ (false = true) by decide)] at H; exact H
              clear H
              have H := H1
              clear H1
              have H' := Aside0.mk H
              clear H
              obtain ⟨Ao26, co26, eo26⟩ := Kd.R_slice HO130.out
              subst eo26
              have p135 : 0 ≤ (0 : Int) := (by omega)
              have q135 : 0 < (t126.length : Int) := of_decide_eq_true (by first | (with_reducible assumption) | assumption)
              obtain ⟨ad135, e135, hx135_0, hx135_1⟩ := at_T45 (Kd.R_reads' HO130.out).2.2 0 p135 q135
              cases e135
              have qi135 : (0 < t126.length) = True := eq_true (by omega)
              (try rw [show ((0 : Int)).toNat = 0 from rfl] at hx135_0)
              (try rw [show 0 * 2 = 0 from rfl] at hx135_0)
              (try rw [Addr.add_zero'] at hx135_0)
              (try rw [show ((0 : Int)).toNat = 0 from rfl] at hx135_1)
              (try rw [show 0 * 2 = 0 from rfl] at hx135_1)
              (try rw [Addr.add_zero'] at hx135_1)
              replace p135 := eq_true p135
              replace q135 := eq_true q135
              go_wp2_with (first | (go_at_call 34; (with_reducible refine (clock_group_one.calls ((rd_T45 t126 0).f0) ((rd_T45 t126 0).f1) false _ A19.out).mono ?_); rintro e w27 ⟨rfl, hb⟩; have n0_ := Aside0.mk (Kd.R_below (by (with_reducible repeat (first | apply Kd.R_alloc | apply Kd.R_drewN | apply Kd.R_drew)); exact HO130.out) hb); have n1_ := Aside0.mk (below_step (by repeat (first | (with_reducible first | exact HB.out | apply below_alloc | apply pw_below_drewN | apply below_drew1) | exact HB.out)) hb); clear HO130; clear HB; have HO130 := n0_; have HB := n1_; clear n0_ n1_; (try clear hb); (try clear hb2); (try clear hk); (try clear hi)))
              go_meet
              case rel => exact ⟨_, (true), (by first | rfl | (simp; done) | (simp [*]; done)), H', ⟨by first | omega | exact Nat.le_refl _⟩, ⟨by (with_reducible repeat (first | apply Kd.R_alloc | apply Kd.R_drewN | apply Kd.R_drew)); exact HO130.out⟩, ⟨by repeat (first | (with_reducible first | exact HB.out | apply below_alloc | apply pw_below_drewN | apply below_drew1) | exact HB.out)⟩⟩
          · rw [if_neg c18] at H
            exact absurd H (by simp)
        · rw [if_neg c17] at H
          have c17b0 : (t127.toList == ([58, 58] : List UInt8)) = false := beq_eq_false_iff_ne.mpr c17
          have c17b1 : (t127.toList != ([58, 58] : List UInt8)) = true := bne_iff_ne.mpr c17
          by_cases c28 : t127.toList = ([58, 58, 46] : List UInt8)
          · rw [if_pos c28] at H
            have c28b0 : (t127.toList == ([58, 58, 46] : List UInt8)) = true := beq_iff_eq.mpr c28
            have c28b1 : (t127.toList != ([58, 58, 46] : List UInt8)) = false := bne_eq_false_iff_eq.mpr c28
            clear c28
            by_cases c29 : 0 < (t126.length : Int)
            · rw [if_pos c29] at H
              have c29b0 : decide (0 < (t126.length : Int)) = true := decide_eq_true c29
              have c29b1 : decide (0 < t126.length) = true := decide_eq_true (by omega)
              clear c29
              replace H := Option.bind_eq_some_iff.mp H
              obtain ⟨t140, A300, H⟩ := H
              replace H : (if t140 = true then (if 1 < (t126.length : Int) then ((clock_group_two.f ((rd_T45 t126 1).f0) ((rd_T45 t126 1).f1)).bind fun t142 => (clock_Read.j0 k t126 t127 (!t142))) else (none)) else (clock_Read.j0 k t126 t127 true)) = some (r1, r2) := H
              have A30 := Aside0.mk A300
              clear A300
              by_cases c31 : t140 = true
              · subst c31
                have H1 : (if 1 < (t126.length : Int) then ((clock_group_two.f ((rd_T45 t126 1).f0) ((rd_T45 t126 1).f1)).bind fun t142 => (clock_Read.j0 k t126 t127 (!t142))) else (none)) = some (r1, r2) := by rw [if_pos rfl] at H; exact H
                clear H
                have H := H1
                clear H1
                by_cases c32 : 1 < (t126.length : Int)
                · rw [if_pos c32] at H
                  have c32b0 : decide (1 < (t126.length : Int)) = true := decide_eq_true c32
                  have c32b1 : decide (1 < t126.length) = true := decide_eq_true (by omega)
                  clear c32
                  replace H := Option.bind_eq_some_iff.mp H
                  obtain ⟨t142, A330, H⟩ := H
                  replace H : (clock_Read.j0 k t126 t127 (!t142)) = some (r1, r2) := H
                  have A33 := Aside0.mk A330
                  clear A330
                  have H' := Aside0.mk H
                  clear H
                  obtain ⟨Ao34, co34, eo34⟩ := Kd.R_slice HO130.out
                  subst eo34
                  have p139 : 0 ≤ (0 : Int) := (by omega)
                  have q139 : 0 < (t126.length : Int) := of_decide_eq_true (by first | (with_reducible assumption) | assumption)
                  obtain ⟨ad139, e139, hx139_0, hx139_1⟩ := at_T45 (Kd.R_reads' HO130.out).2.2 0 p139 q139
                  cases e139
                  have qi139 : (0 < t126.length) = True := eq_true (by omega)
                  (try rw [show ((0 : Int)).toNat = 0 from rfl] at hx139_0)
                  (try rw [show 0 * 2 = 0 from rfl] at hx139_0)
                  (try rw [Addr.add_zero'] at hx139_0)
                  (try rw [show ((0 : Int)).toNat = 0 from rfl] at hx139_1)
                  (try rw [show 0 * 2 = 0 from rfl] at hx139_1)
                  (try rw [Addr.add_zero'] at hx139_1)
                  replace p139 := eq_true p139
                  replace q139 := eq_true q139
                  go_wp2_with (first | (go_at_call 34; (with_reducible refine (clock_group_one.calls ((rd_T45 t126 0).f0) ((rd_T45 t126 0).f1) true _ A30.out).mono ?_); rintro e w35 ⟨rfl, hb⟩; have n0_ := Aside0.mk (Kd.R_below (by (with_reducible repeat (first | apply Kd.R_alloc | apply Kd.R_drewN | apply Kd.R_drew)); exact HO130.out) hb); have n1_ := Aside0.mk (below_step (by repeat (first | (with_reducible first | exact HB.out | apply below_alloc | apply pw_below_drewN | apply below_drew1) | exact HB.out)) hb); clear HO130; clear HB; have HO130 := n0_; have HB := n1_; clear n0_ n1_; (try clear hb); (try clear hb2); (try clear hk); (try clear hi); have p141 : 0 ≤ (1 : Int) := (by omega); have q141 : 1 < (t126.length : Int) := of_decide_eq_true (by first | (with_reducible assumption) | assumption); obtain ⟨ad141, e141, hx141_0, hx141_1⟩ := at_T45 (Kd.R_reads' HO130.out).2.2 1 p141 q141; obtain rfl : ad139 = ad141 := (by injection e141); (try simp only [show (1 : Int).toNat = 1 from rfl, Nat.reduceMul, Nat.reduceEqDiff, Go.Addr.add, ↓reduceIte] at hx141_0); (try simp only [show (1 : Int).toNat = 1 from rfl, Nat.reduceMul, Nat.reduceEqDiff, Go.Addr.add, ↓reduceIte] at hx141_1); have qi141 : (1 < t126.length) = True := eq_true (by omega); (try rw [show ((1 : Int)).toNat = 1 from rfl] at hx141_0); (try rw [show 1 * 2 = 2 from rfl] at hx141_0); (try rw [show ((1 : Int)).toNat = 1 from rfl] at hx141_1); (try rw [show 1 * 2 = 2 from rfl] at hx141_1); replace p141 := eq_true p141; replace q141 := eq_true q141) | (go_at_call 35; (with_reducible refine (clock_group_two.calls ((rd_T45 t126 1).f0) ((rd_T45 t126 1).f1) t142 _ A33.out).mono ?_); rintro e w36 ⟨rfl, hb⟩; have n0_ := Aside0.mk (Kd.R_below (by (with_reducible repeat (first | apply Kd.R_alloc | apply Kd.R_drewN | apply Kd.R_drew)); exact HO130.out) hb); have n1_ := Aside0.mk (below_step (by repeat (first | (with_reducible first | exact HB.out | apply below_alloc | apply pw_below_drewN | apply below_drew1) | exact HB.out)) hb); clear HO130; clear HB; have HO130 := n0_; have HB := n1_; clear n0_ n1_; (try clear hb); (try clear hb2); (try clear hk); (try clear hi)))
                  go_meet
                  case rel => exact ⟨_, (!t142), (by first | rfl | (simp; done) | (simp [*]; done)), H', ⟨by first | omega | exact Nat.le_refl _⟩, ⟨by (with_reducible repeat (first | apply Kd.R_alloc | apply Kd.R_drewN | apply Kd.R_drew)); exact HO130.out⟩, ⟨by repeat (first | (with_reducible first | exact HB.out | apply below_alloc | apply pw_below_drewN | apply below_drew1) | exact HB.out)⟩⟩
                · rw [if_neg c32] at H
                  exact absurd H (by simp)
              · replace c31 := Bool.eq_false_iff.mpr c31
                subst c31
                have H1 : (clock_Read.j0 k t126 t127 true) = some (r1, r2) := by rw [if_neg (show ¬ (false = true) by decide)] at H; exact H
                clear H
                have H := H1
                clear H1
                have H' := Aside0.mk H
                clear H
                obtain ⟨Ao37, co37, eo37⟩ := Kd.R_slice HO130.out
                subst eo37
                have p139 : 0 ≤ (0 : Int) := (by omega)
                have q139 : 0 < (t126.length : Int) := of_decide_eq_true (by first | (with_reducible assumption) | assumption)
                obtain ⟨ad139, e139, hx139_0, hx139_1⟩ := at_T45 (Kd.R_reads' HO130.out).2.2 0 p139 q139
                cases e139
                have qi139 : (0 < t126.length) = True := eq_true (by omega)
                (try rw [show ((0 : Int)).toNat = 0 from rfl] at hx139_0)
                (try rw [show 0 * 2 = 0 from rfl] at hx139_0)
                (try rw [Addr.add_zero'] at hx139_0)
                (try rw [show ((0 : Int)).toNat = 0 from rfl] at hx139_1)
                (try rw [show 0 * 2 = 0 from rfl] at hx139_1)
                (try rw [Addr.add_zero'] at hx139_1)
                replace p139 := eq_true p139
                replace q139 := eq_true q139
                go_wp2_with (first | (go_at_call 34; (with_reducible refine (clock_group_one.calls ((rd_T45 t126 0).f0) ((rd_T45 t126 0).f1) false _ A30.out).mono ?_); rintro e w38 ⟨rfl, hb⟩; have n0_ := Aside0.mk (Kd.R_below (by (with_reducible repeat (first | apply Kd.R_alloc | apply Kd.R_drewN | apply Kd.R_drew)); exact HO130.out) hb); have n1_ := Aside0.mk (below_step (by repeat (first | (with_reducible first | exact HB.out | apply below_alloc | apply pw_below_drewN | apply below_drew1) | exact HB.out)) hb); clear HO130; clear HB; have HO130 := n0_; have HB := n1_; clear n0_ n1_; (try clear hb); (try clear hb2); (try clear hk); (try clear hi)))
                go_meet
                case rel => exact ⟨_, (true), (by first | rfl | (simp; done) | (simp [*]; done)), H', ⟨by first | omega | exact Nat.le_refl _⟩, ⟨by (with_reducible repeat (first | apply Kd.R_alloc | apply Kd.R_drewN | apply Kd.R_drew)); exact HO130.out⟩, ⟨by repeat (first | (with_reducible first | exact HB.out | apply below_alloc | apply pw_below_drewN | apply below_drew1) | exact HB.out)⟩⟩
            · rw [if_neg c29] at H
              exact absurd H (by simp)
          · rw [if_neg c28] at H
            have c28b0 : (t127.toList == ([58, 58, 46] : List UInt8)) = false := beq_eq_false_iff_ne.mpr c28
            have c28b1 : (t127.toList != ([58, 58, 46] : List UInt8)) = true := bne_iff_ne.mpr c28
            have H' := Aside0.mk H
            clear H
            go_wp2
            go_meet
            case rel => exact ⟨_, (true), (by first | rfl | (simp; done) | (simp [*]; done)), H', ⟨by first | omega | exact Nat.le_refl _⟩, ⟨by (with_reducible repeat (first | apply Kd.R_alloc | apply Kd.R_drewN | apply Kd.R_drew)); exact HO130.out⟩, ⟨by repeat (first | (with_reducible first | exact HB.out | apply below_alloc | apply pw_below_drewN | apply below_drew1) | exact HB.out)⟩⟩
    · replace c5 := Bool.eq_false_iff.mpr c5
      subst c5
      have H1 : (clock_Read.j0 k t126 t127 true) = some (r1, r2) := by rw [if_neg (show ¬ (false = true) by decide)] at H; exact H
      clear H
      have H := H1
      clear H1
      have H' := Aside0.mk H
      clear H
      go_wp2
      go_meet
      case rel => exact ⟨_, (true), (by first | rfl | (simp; done) | (simp [*]; done)), H', ⟨by first | omega | exact Nat.le_refl _⟩, ⟨by (with_reducible repeat (first | apply Kd.R_alloc | apply Kd.R_drewN | apply Kd.R_drew)); exact HO130.out⟩, ⟨by repeat (first | (with_reducible first | exact HB.out | apply below_alloc | apply pw_below_drewN | apply below_drew1) | exact HB.out)⟩⟩
  case rest =>
    clear HC3
    try clear c1
    try clear p1
    try clear q1
    try clear hx1
    try clear qi1
    try clear c2
    try clear p2
    try clear c3
    try clear c5
    try clear c6
    try clear c6b0
    try clear c6b1
    try clear c7
    try clear c7b0
    try clear c7b1
    try clear c9
    try clear c10
    try clear c10b0
    try clear c10b1
    try clear p13
    try clear q13
    try clear hx13
    try clear qi13
    try clear p14
    try clear q14
    try clear hx14
    try clear qi14
    try clear c17
    try clear c17b0
    try clear c17b1
    try clear c18
    try clear c18b0
    try clear c18b1
    try clear c20
    try clear c21
    try clear c21b0
    try clear c21b1
    try clear c28
    try clear c28b0
    try clear c28b1
    try clear c29
    try clear c29b0
    try clear c29b1
    try clear c31
    try clear c32
    try clear c32b0
    try clear c32b1
    try clear c33
    try clear hx131_0
    try clear hx131_1
    try clear hx133_0
    try clear hx133_1
    try clear hx135_0
    try clear hx135_1
    try clear hx137_0
    try clear hx137_1
    try clear hx139_0
    try clear hx139_1
    try clear hx141_0
    try clear hx141_1
    try clear p131
    try clear p133
    try clear p135
    try clear p137
    try clear p139
    try clear p141
    try clear q131
    try clear q133
    try clear q135
    try clear q137
    try clear q139
    try clear q141
    obtain ⟨kq, x42_2, rfl, HA, HJ2, HO_4, HB⟩ := hcut
    cases kq with
    | zero => exact absurd HA.out (by simp [clock_Read.j0])
    | succ kj2 =>
      have H := HA.out
      clear HA
      simp only [clock_Read.j0] at H
      by_cases c39 : x42_2 = true
      · subst c39
        have H1 : (some (0, 13)) = some (r1, r2) := by rw [if_pos rfl] at H; exact H
        clear H
        have H := H1
        clear H1
        simp only [Option.some.injEq, Prod.mk.injEq] at H
        obtain ⟨rfl, rfl⟩ := H
        go_wp2
        go_ret2
        exact ⟨by first | rfl | (simp [errW_none, errW_some] <;> rfl) | (simp [*, errW_none, errW_some] <;> rfl), by repeat (first | (with_reducible first | exact HB.out | apply below_alloc | apply pw_below_drewN | apply below_drew1) | exact HB.out)⟩
      · replace c39 := Bool.eq_false_iff.mpr c39
        subst c39
        have H1 : ((some (([(⟨0, 2⟩ : S45), (⟨0, 6⟩ : S45)] : List (S45)) : List (S45))).bind fun y143 => (if t126.length + y143.length < 8796093022208 then ((some (t126 ++ y143 : List (S45))).bind fun y146 => (if 2 < (y146.length : Int) then (if 3 < (y146.length : Int) then (if t127.toList = ([58] : List UInt8) then (clock_Read.j1 kj2 y146 0 2 0 6) else (if t127.toList = ([58, 58] : List UInt8) then (clock_Read.j1 kj2 y146 ((rd_T45 y146 2).f0) ((rd_T45 y146 2).f1) 0 6) else (clock_Read.j1 kj2 y146 ((rd_T45 y146 2).f0) ((rd_T45 y146 2).f1) ((rd_T45 y146 3).f0) ((rd_T45 y146 3).f1)))) else (none)) else (none))) else (none))) = some (r1, r2) := by rw [if_neg (show ¬ (false = true) by decide)] at H; exact H
        clear H
        have H := H1
        clear H1
        obtain ⟨y143, hy143⟩ : ∃ y_ : List (S45), y_ = (([(⟨0, 2⟩ : S45), (⟨0, 6⟩ : S45)] : List (S45))) := ⟨_, rfl⟩
        replace H : (if t126.length + y143.length < 8796093022208 then ((some (t126 ++ y143 : List (S45))).bind fun y146 => (if 2 < (y146.length : Int) then (if 3 < (y146.length : Int) then (if t127.toList = ([58] : List UInt8) then (clock_Read.j1 kj2 y146 0 2 0 6) else (if t127.toList = ([58, 58] : List UInt8) then (clock_Read.j1 kj2 y146 ((rd_T45 y146 2).f0) ((rd_T45 y146 2).f1) 0 6) else (clock_Read.j1 kj2 y146 ((rd_T45 y146 2).f0) ((rd_T45 y146 2).f1) ((rd_T45 y146 3).f0) ((rd_T45 y146 3).f1)))) else (none)) else (none))) else (none)) = some (r1, r2) := by first | (rw [hy143]; with_reducible exact H) | (have H2_ := (Option.bind_some _ _).symm.trans H; rw [hy143]; with_reducible exact H2_) | (have H2_ := (Option.bind_some _ _).symm.trans H; with_reducible exact H2_) | with_reducible exact H | (rw [hy143]; exact H) | exact H
        have Ny143 := Aside0.mk hy143
        clear hy143
        by_cases c40 : t126.length + y143.length < 8796093022208
        · rw [if_pos c40] at H
          have LMc40 := Aside0.mk c40
          clear c40
          obtain ⟨y146, hy146⟩ : ∃ y_ : List (S45), y_ = (t126 ++ y143) := ⟨_, rfl⟩
          replace H : (if 2 < (y146.length : Int) then (if 3 < (y146.length : Int) then (if t127.toList = ([58] : List UInt8) then (clock_Read.j1 kj2 y146 0 2 0 6) else (if t127.toList = ([58, 58] : List UInt8) then (clock_Read.j1 kj2 y146 ((rd_T45 y146 2).f0) ((rd_T45 y146 2).f1) 0 6) else (clock_Read.j1 kj2 y146 ((rd_T45 y146 2).f0) ((rd_T45 y146 2).f1) ((rd_T45 y146 3).f0) ((rd_T45 y146 3).f1)))) else (none)) else (none)) = some (r1, r2) := by first | (rw [hy146]; with_reducible exact H) | (have H2_ := (Option.bind_some _ _).symm.trans H; rw [hy146]; with_reducible exact H2_) | (have H2_ := (Option.bind_some _ _).symm.trans H; with_reducible exact H2_) | with_reducible exact H | (rw [hy146]; exact H) | exact H
          have Ny146 := Aside0.mk hy146
          clear hy146
          by_cases c41 : 2 < (y146.length : Int)
          · rw [if_pos c41] at H
            have c41b0 : decide (2 < (y146.length : Int)) = true := decide_eq_true c41
            have c41b1 : decide (2 < y146.length) = true := decide_eq_true (by omega)
            clear c41
            by_cases c42 : 3 < (y146.length : Int)
            · rw [if_pos c42] at H
              have c42b0 : decide (3 < (y146.length : Int)) = true := decide_eq_true c42
              have c42b1 : decide (3 < y146.length) = true := decide_eq_true (by omega)
              clear c42
              have HC43 := Aside0.mk H
              clear H
              try go_wp2_with (first | ((with_reducible refine gate_dst (N := 46) rfl ?_); refine Kd.R_lit k45 _ 45 ?hg (N := 46) ?hd (xs := ([(⟨0, 2⟩ : S45), (⟨0, 6⟩ : S45)] : List (S45))) (inner := [.int .i64 0, .int .i64 2, .int .i64 0, .int .i64 6]) (ok := fun _ => True) (okp := fun _ => True) ?hr ?hp (fun _ hk => hk) trivial (Below.refl _ _) (Nat.le_refl _) (by simp) ?_; (case hd => rfl); (case hg => rfl); (case hr => first | (go_simp; done) | (go_simp; rfl)); (case hp => exact (Reps.c2 (show Kd.M k45 _ _ _ (⟨0, 2⟩ : S45) [.int .i64 0, .int .i64 2] from (k45_mkM _ _ _ (⟨0, 2⟩ : S45) )) (Reps.c2 (show Kd.M k45 _ _ _ (⟨0, 6⟩ : S45) [.int .i64 0, .int .i64 6] from (k45_mkM _ _ _ (⟨0, 6⟩ : S45) )) (Reps.none _ _)))); intro v144 w44 ho45 hb hg_ hnew_; clear hg_ hnew_; (first | rw [← Ny143.out] at ho45 | (simp only [Int.reduceToNat] at ho45; rw [← Ny143.out] at ho45)); have n0_ := Aside0.mk (Kd.R_elder' (by (with_reducible repeat (first | apply Kd.R_alloc | apply Kd.R_drewN | apply Kd.R_drew)); exact HO_4.out) (Kd.R_base ho45) hb); have n1_ := Aside0.mk (Kd.R_lower (Kd.R_new' ho45 (Kd.R_lt (by (with_reducible repeat (first | apply Kd.R_alloc | apply Kd.R_drewN | apply Kd.R_drew)); exact HO_4.out))) (below_size (by repeat (first | (with_reducible first | exact HB.out | apply below_alloc | apply pw_below_drewN | apply below_drew1) | exact HB.out)))); have n2_ := Aside0.mk (below_step (by repeat (first | (with_reducible first | exact HB.out | apply below_alloc | apply pw_below_drewN | apply below_drew1) | exact HB.out)) hb); clear HO_4; clear HB; have HO_4 := n0_; have HO145 := n1_; have HB := n2_; clear n0_ n1_ n2_; clear hb ho45; obtain ⟨Ao47, co47, eo47⟩ := Kd.R_slice HO145.out; subst eo47) | ((with_reducible refine gate_builtin (b := .append) (xs := #[.tmp 43, .tmp 46]) rfl ?_); at_builtin; refine Kd.R_append_rows k45 (w0 := w) w.heap.size rfl (.tmp 43) (.tmp 46) 41 45 (.agg #[(.int .i64 0), (.int .i64 0)]) 16 rfl Try.underlying41 info45 rfl (by decide) (by omega) v129 t126 y143 _ _ _ (fun k_ => some k_ ≠ (.slice Ao47 y143.length co47 : Value).ownBlock) (fun _ => False) rfl rfl ?aO ?aR (fun _ _ h => h) (fun _ h => h.elim) ?aF ?aB ?aS ?aL ?_; (case aR => repeat (first | exact (Kd.R_reads' HO145.out).2.2 | (with_reducible refine Kd.C_alloc ?_ _) | (with_reducible refine Kd.C_drewN ?_ _) | (with_reducible refine Kd.C_drew ?_))); (case aB => exact (by repeat (first | (with_reducible first | exact HB.out | apply below_alloc | apply pw_below_drewN | apply below_drew1) | exact HB.out))); (case aF => exact (fun k_ hk => Kd.fresh' (Kd.R_lt (by (with_reducible repeat (first | apply Kd.R_alloc | apply Kd.R_drewN | apply Kd.R_drew)); exact HO145.out)) k_ hk)); (case aO => exact (by (with_reducible repeat (first | apply Kd.R_alloc | apply Kd.R_drewN | apply Kd.R_drew)); exact Kd.R_mono HO_4.out (fun _ hk => hk.2))); (case aS => exact (below_size (by repeat (first | (with_reducible first | exact HB.out | apply below_alloc | apply pw_below_drewN | apply below_drew1) | exact HB.out)))); (case aL => have := LMc40.out; omega); intro v147 w46 ho hb hg hat; rw [← Ny146.out] at ho; have n0_ := Aside0.mk (Kd.R_after (ok := (fun _ => True)) (by (with_reducible repeat (first | apply Kd.R_alloc | apply Kd.R_drewN | apply Kd.R_drew)); exact HO145.out) hg hat); have n1_ := Aside0.mk (hb); have n2_ := Aside0.mk (ho); clear HO145; clear HB; clear HO_4; have HO145 := n0_; have HB := n1_; have HO148 := n2_; clear n0_ n1_ n2_; clear ho hb hg hat))
              have n0_ := Aside0.mk (Kd.R_drew HO145.out)
              have n1_ := Aside0.mk (Kd.R_drew HO148.out)
              have n2_ := Aside0.mk (below_drew1 HB.out)
              clear HO145
              clear HO148
              clear HB
              have HO145 := n0_
              have HO148 := n1_
              have HB := n2_
              clear n0_ n1_ n2_
              obtain ⟨Ao49, co49, eo49⟩ := Kd.R_slice HO148.out
              (first | subst eo49 | (injection eo49 with f1_ f2_ f3_; have f4_ := f1_.symm; have f5_ := f3_.symm; clear f1_ f2_ f3_; subst f4_; subst f5_))
              have p149 : 0 ≤ (2 : Int) := (by omega)
              have q149 : 2 < (y146.length : Int) := of_decide_eq_true (by first | (with_reducible assumption) | assumption)
              obtain ⟨ad149, e149, hx149_0, hx149_1⟩ := at_T45 (Kd.R_reads' HO148.out).2.2 2 p149 q149
              cases e149
              (try simp only [show (2 : Int).toNat = 2 from rfl, Nat.reduceMul, Nat.reduceEqDiff, Go.Addr.add, ↓reduceIte] at hx149_0)
              (try simp only [show (2 : Int).toNat = 2 from rfl, Nat.reduceMul, Nat.reduceEqDiff, Go.Addr.add, ↓reduceIte] at hx149_1)
              have qi149 : (2 < y146.length) = True := eq_true (by omega)
              (try rw [show ((2 : Int)).toNat = 2 from rfl] at hx149_0)
              (try rw [show 2 * 2 = 4 from rfl] at hx149_0)
              (try rw [show ((2 : Int)).toNat = 2 from rfl] at hx149_1)
              (try rw [show 2 * 2 = 4 from rfl] at hx149_1)
              replace p149 := eq_true p149
              replace q149 := eq_true q149
              have p150 : 0 ≤ (3 : Int) := (by omega)
              have q150 : 3 < (y146.length : Int) := of_decide_eq_true (by first | (with_reducible assumption) | assumption)
              obtain ⟨ad150, e150, hx150_0, hx150_1⟩ := at_T45 (Kd.R_reads' HO148.out).2.2 3 p150 q150
              obtain rfl : ad149 = ad150 := (by injection e150)
              (try simp only [show (3 : Int).toNat = 3 from rfl, Nat.reduceMul, Nat.reduceEqDiff, Go.Addr.add, ↓reduceIte] at hx150_0)
              (try simp only [show (3 : Int).toNat = 3 from rfl, Nat.reduceMul, Nat.reduceEqDiff, Go.Addr.add, ↓reduceIte] at hx150_1)
              have qi150 : (3 < y146.length) = True := eq_true (by omega)
              (try rw [show ((3 : Int)).toNat = 3 from rfl] at hx150_0)
              (try rw [show 3 * 2 = 6 from rfl] at hx150_0)
              (try rw [show ((3 : Int)).toNat = 3 from rfl] at hx150_1)
              (try rw [show 3 * 2 = 6 from rfl] at hx150_1)
              replace p150 := eq_true p150
              replace q150 := eq_true q150
              refine start_ (n := 10) (S := fun w' => w'.cell? ⟨ad149.block, ad149.off + 4, none⟩ = some (.int .i64 ((rd_T45 y146 2).f0)) ∧ w'.cell? ⟨ad149.block, ad149.off + 4 + 1, none⟩ = some (.int .i64 ((rd_T45 y146 2).f1)) ∧ w'.cell? ⟨ad149.block, ad149.off + 6, none⟩ = some (.int .i64 ((rd_T45 y146 3).f0)) ∧ w'.cell? ⟨ad149.block, ad149.off + 6 + 1, none⟩ = some (.int .i64 ((rd_T45 y146 3).f1))) (ds := []) #[false, false, false, false, false, false, false, false, false, false] (by kernel_rfl) rfl rfl ⟨hx149_0, hx149_1, hx150_0, hx150_1⟩ (fun hHeld => ?_); refine with_tabW clock_Read.tab5 clock_Read.bits5 (fun HT_ HW_ => ?_)
              generalize w46.drew = w48 at HO145 HO148 HB hx149_0 hx149_1 hx150_0 hx150_1 hHeld ⊢
              refine pure_ (i := 0) (N := some 48) (v := ?_) (a' := ?_) #[true, false, false, false, false, false, false, false, false, false] rfl rfl (any_of HT_.out (by kernel_rfl)) (fun _ _ _ h => h) (Or.inl ⟨by rfl, ?_⟩) ?_ ?_
              rotate_left
              · intro w'
                go_simp
                with_reducible rfl
              rotate_left
              · simp only [Act.put, List.setIfInBounds_toArray, List.set_cons_zero, List.set_cons_succ, i64_w, i32_w]
                rfl
              refine pure_ (i := 1) (N := some 49) (v := ?_) (a' := ?_) #[true, true, false, false, false, false, false, false, false, false] rfl rfl (any_of HT_.out (by kernel_rfl)) (fun _ _ _ h => h) (Or.inl ⟨by rfl, ?_⟩) ?_ ?_
              rotate_left
              · intro w'
                go_simp
                with_reducible rfl
              rotate_left
              · simp only [Act.put, List.setIfInBounds_toArray, List.set_cons_zero, List.set_cons_succ, i64_w, i32_w]
                rfl
              refine pure_ (i := 3) (N := some 51) (v := ?_) (a' := ?_) #[true, true, false, true, false, false, false, false, false, false] rfl rfl (any_of HT_.out (by kernel_rfl)) (fun _ _ _ h => h) (Or.inl ⟨by rfl, ?_⟩) ?_ ?_
              rotate_left
              · intro w'
                go_simp
                with_reducible rfl
              rotate_left
              · simp only [Act.put, List.setIfInBounds_toArray, List.set_cons_zero, List.set_cons_succ, i64_w, i32_w]
                rfl
              refine pure_ (i := 4) (N := some 52) (v := ?_) (a' := ?_) #[true, true, false, true, true, false, false, false, false, false] rfl rfl (any_of HT_.out (by kernel_rfl)) (fun _ _ _ h => h) (Or.inl ⟨by rfl, ?_⟩) ?_ ?_
              rotate_left
              · intro w'
                go_simp
                with_reducible rfl
              rotate_left
              · simp only [Act.put, List.setIfInBounds_toArray, List.set_cons_zero, List.set_cons_succ, i64_w, i32_w]
                rfl
              refine take_ (i := 2) (N := some 50) (v := ?_) (a' := ?_) #[true, true, true, true, true, false, false, false, false, false] rfl rfl (take_ofW HT_.out HW_.out (by kernel_rfl)) (fun _ _ _ h => h) (Or.inl ⟨by rfl, ?_⟩) hHeld ?_ ?_
              rotate_left
              · rintro w' ⟨s0, s1, s2, s3⟩
                go_simp
                with_reducible rfl
              rotate_left
              · simp only [Act.put, List.setIfInBounds_toArray, List.set_cons_zero, List.set_cons_succ, i64_w, i32_w]
                rfl
              refine take_ (i := 5) (N := some 53) (v := ?_) (a' := ?_) #[true, true, true, true, true, true, false, false, false, false] rfl rfl (take_ofW HT_.out HW_.out (by kernel_rfl)) (fun _ _ _ h => h) (Or.inl ⟨by rfl, ?_⟩) hHeld ?_ ?_
              rotate_left
              · rintro w' ⟨s0, s1, s2, s3⟩
                go_simp
                with_reducible rfl
              rotate_left
              · simp only [Act.put, List.setIfInBounds_toArray, List.set_cons_zero, List.set_cons_succ, i64_w, i32_w]
                rfl
              refine join_ (σ := Nat × Nat) 2 #[true, true, true, true, true, true, true, true, false, false] (fun s_ => [(7, .pointer (some ⟨s_.1, 0, none⟩)), (8, .pointer (some ⟨s_.2, 0, none⟩))]) (fun s_ w' => (w'.cell? ⟨ad149.block, ad149.off + 4, none⟩ = some (.int .i64 ((rd_T45 y146 2).f0)) ∧ w'.cell? ⟨ad149.block, ad149.off + 4 + 1, none⟩ = some (.int .i64 ((rd_T45 y146 2).f1)) ∧ w'.cell? ⟨ad149.block, ad149.off + 6, none⟩ = some (.int .i64 ((rd_T45 y146 3).f0)) ∧ w'.cell? ⟨ad149.block, ad149.off + 6 + 1, none⟩ = some (.int .i64 ((rd_T45 y146 3).f1))) ∧ (Kd.R k45 45 w' w.heap.size (fun k_ => some k_ ≠ (.slice (some ad149) y146.length co49 : Value).ownBlock ∧ k_ ≠ s_.1 ∧ k_ ≠ s_.2) (.slice Ao47 y143.length co47) y143) ∧ (Kd.R k45 45 w' w.heap.size (fun k_ => some k_ ≠ (.slice Ao47 y143.length co47 : Value).ownBlock ∧ k_ ≠ s_.1 ∧ k_ ≠ s_.2) (.slice (some ad149) y146.length co49) y146) ∧ (w'.heap[s_.1]? = some (.cells #[.int .i64 0, .int .i64 0] 45 (0, 0))) ∧ (w'.heap[s_.2]? = some (.cells #[.int .i64 0, .int .i64 0] 45 (0, 0))) ∧ (w.heap.size ≤ s_.1) ∧ (w.heap.size ≤ s_.1) ∧ (s_.2 ≠ s_.1) ∧ (s_.1 ≠ s_.2) ∧ (w.heap.size ≤ s_.2) ∧ (w.heap.size ≤ s_.2) ∧ (Below w.heap.size w w')) ?_ ?_
              rotate_left
              · intro hCont
                refine two_ (i := 6) (j := 7) (Ni := some 7) (Nj := some 8) #[true, true, true, true, true, true, true, false, false, false] #[true, true, true, true, true, true, false, true, false, false] rfl rfl rfl rfl (two_of HT_.out (by kernel_rfl)) (by decide) (by decide) (fun K hK => ?_) (fun K hK => ?_)
                · skip
                  refine box_step ?hg (N := 7) ?hd (cs := #[.int .i64 0, .int .i64 0]) (t := 45) ?hr ?_; (case hd => rfl); (case hg => rfl); (case hr => first | (go_simp; done) | (go_simp; rfl))
                  intro gb151 hg w50 hbox hb
                  have HS0_ := (hb.cell (World.block_lt_of_cell? _ _ (hHeld.1))).trans (hHeld.1)
                  have HS1_ := (hb.cell (World.block_lt_of_cell? _ _ (hHeld.2.1))).trans (hHeld.2.1)
                  have HS2_ := (hb.cell (World.block_lt_of_cell? _ _ (hHeld.2.2.1))).trans (hHeld.2.2.1)
                  have HS3_ := (hb.cell (World.block_lt_of_cell? _ _ (hHeld.2.2.2))).trans (hHeld.2.2.2)
                  have n0_ := Aside0.mk (Kd.R_below (Kd.R_elderB (by (with_reducible repeat (first | apply Kd.R_alloc | apply Kd.R_drewN | apply Kd.R_drew)); exact HO145.out) gb151 (Nat.le_of_eq hg.symm)) hb)
                  have n1_ := Aside0.mk (Kd.R_below (Kd.R_elderB (by (with_reducible repeat (first | apply Kd.R_alloc | apply Kd.R_drewN | apply Kd.R_drew)); exact HO148.out) gb151 (Nat.le_of_eq hg.symm)) hb)
                  have n2_ := Aside0.mk (below_step (by repeat (first | (with_reducible first | exact HB.out | apply below_alloc | apply pw_below_drewN | apply below_drew1) | exact HB.out)) hb)
                  have n3_ := Aside0.mk (hbox)
                  have n4_ := Aside0.mk ((by rw [hg]; exact (below_size (by repeat (first | (with_reducible first | exact HB.out | apply below_alloc | apply pw_below_drewN | apply below_drew1) | exact HB.out))) : w.heap.size ≤ gb151))
                  have n5_ := Aside0.mk ((by rw [hg]; exact (below_size (by repeat (first | (with_reducible first | exact HB.out | apply below_alloc | apply pw_below_drewN | apply below_drew1) | exact HB.out))) : w.heap.size ≤ gb151))
                  clear HO145
                  clear HO148
                  clear HB
                  have HO145 := n0_
                  have HO148 := n1_
                  have HB := n2_
                  have BK151 := n3_
                  have GW151 := n4_
                  have GE151 := n5_
                  clear n0_ n1_ n2_ n3_ n4_ n5_
                  clear hb hbox hg
                  refine hK.out _ _ ⟨HS0_, HS1_, HS2_, HS3_⟩ (fun hHeld => ?_)
                  clear hK K
                  refine norm_ (a' := ?_) ?_ ?_
                  rotate_left
                  · show Act.put _ (some 7) _ = _
                    simp only [Act.put, List.setIfInBounds_toArray, List.set_cons_zero, List.set_cons_succ, i64_w, i32_w]
                    rfl
                  refine one_ (i := 7) (N := some 8) #[true, true, true, true, true, true, true, true, false, false] rfl rfl (one_of HT_.out (by kernel_rfl)) (by decide) (fun K hK => ?_)
                  refine box_step ?hg (N := 8) ?hd (cs := #[.int .i64 0, .int .i64 0]) (t := 45) ?hr ?_; (case hd => rfl); (case hg => rfl); (case hr => first | (go_simp; done) | (go_simp; rfl))
                  intro gb152 hg w51 hbox hb
                  have HS0_ := (hb.cell (World.block_lt_of_cell? _ _ (hHeld.1))).trans (hHeld.1)
                  have HS1_ := (hb.cell (World.block_lt_of_cell? _ _ (hHeld.2.1))).trans (hHeld.2.1)
                  have HS2_ := (hb.cell (World.block_lt_of_cell? _ _ (hHeld.2.2.1))).trans (hHeld.2.2.1)
                  have HS3_ := (hb.cell (World.block_lt_of_cell? _ _ (hHeld.2.2.2))).trans (hHeld.2.2.2)
                  have n0_ := Aside0.mk (Kd.R_below (Kd.R_elderB (by (with_reducible repeat (first | apply Kd.R_alloc | apply Kd.R_drewN | apply Kd.R_drew)); exact HO145.out) gb152 (Nat.le_of_eq hg.symm)) hb)
                  have n1_ := Aside0.mk (Kd.R_below (Kd.R_elderB (by (with_reducible repeat (first | apply Kd.R_alloc | apply Kd.R_drewN | apply Kd.R_drew)); exact HO148.out) gb152 (Nat.le_of_eq hg.symm)) hb)
                  have n2_ := Aside0.mk (blk_below (g := gb151) (o := .cells #[.int .i64 0, .int .i64 0] 45 (0, 0)) (by (with_reducible repeat (first | refine blk_drewN ?_ _ | refine blk_drew ?_ | refine blk_alloc ?_ _)); exact BK151.out) hb)
                  have n3_ := Aside0.mk (below_step (by repeat (first | (with_reducible first | exact HB.out | apply below_alloc | apply pw_below_drewN | apply below_drew1 | refine below_set ?_ GE151.out) | exact HB.out)) hb)
                  have n4_ := Aside0.mk (hbox)
                  have n5_ := Aside0.mk ((by rw [hg]; exact (below_size (by repeat (first | (with_reducible first | exact HB.out | apply below_alloc | apply pw_below_drewN | apply below_drew1 | refine below_set ?_ GE151.out) | exact HB.out))) : w.heap.size ≤ gb152))
                  have n6_ := Aside0.mk ((by rw [hg]; exact (below_size (by repeat (first | (with_reducible first | exact HB.out | apply below_alloc | apply pw_below_drewN | apply below_drew1 | refine below_set ?_ GE151.out) | exact HB.out))) : w.heap.size ≤ gb152))
                  have n7_ := Aside0.mk ((by rw [hg]; exact Nat.ne_of_lt (blk_lt (g := gb151) (o := .cells #[.int .i64 0, .int .i64 0] 45 (0, 0)) (by (with_reducible repeat (first | refine blk_drewN ?_ _ | refine blk_drew ?_ | refine blk_alloc ?_ _)); exact BK151.out)) : gb151 ≠ gb152))
                  have n8_ := Aside0.mk ((by rw [hg]; exact Nat.ne_of_gt (blk_lt (g := gb151) (o := .cells #[.int .i64 0, .int .i64 0] 45 (0, 0)) (by (with_reducible repeat (first | refine blk_drewN ?_ _ | refine blk_drew ?_ | refine blk_alloc ?_ _)); exact BK151.out)) : gb152 ≠ gb151))
                  clear HO145
                  clear HO148
                  clear BK151
                  clear HB
                  have HO145 := n0_
                  have HO148 := n1_
                  have BK151 := n2_
                  have HB := n3_
                  have BK152 := n4_
                  have GW152 := n5_
                  have GE152 := n6_
                  have NB151_152 := n7_
                  have NB152_151 := n8_
                  clear n0_ n1_ n2_ n3_ n4_ n5_ n6_ n7_ n8_
                  clear hb hbox hg
                  refine hK.out _ _ ⟨HS0_, HS1_, HS2_, HS3_⟩ (fun hHeld => ?_)
                  clear hK K
                  refine norm_ (a' := ?_) ?_ ?_
                  rotate_left
                  · show Act.put _ (some 8) _ = _
                    simp only [Act.put, List.setIfInBounds_toArray, List.set_cons_zero, List.set_cons_succ, i64_w, i32_w]
                    rfl
                  exact norm_ (by simp only [putAll, Act.put, List.setIfInBounds_toArray, List.set_cons_zero, List.set_cons_succ]) (hCont (gb151, gb152) _ ⟨hHeld, (by (with_reducible repeat (first | apply Kd.R_alloc | apply Kd.R_drewN | apply Kd.R_drew)); exact Kd.R_mono HO145.out (fun _ hk => ⟨hk.1.1.2, ⟨hk.1.2, hk.2⟩⟩)), (by (with_reducible repeat (first | apply Kd.R_alloc | apply Kd.R_drewN | apply Kd.R_drew)); exact Kd.R_mono HO148.out (fun _ hk => ⟨hk.1.1, ⟨hk.1.2, hk.2⟩⟩)), (by (with_reducible repeat (first | refine blk_drewN ?_ _ | refine blk_drew ?_ | refine blk_alloc ?_ _)); exact BK151.out), (by (with_reducible repeat (first | refine blk_drewN ?_ _ | refine blk_drew ?_ | refine blk_alloc ?_ _)); exact BK152.out), GW151.out, GE151.out, NB152_151.out, NB151_152.out, GW152.out, GE152.out, (by repeat (first | (with_reducible first | exact HB.out | apply below_alloc | apply pw_below_drewN | apply below_drew1 | refine below_set ?_ GE151.out | refine below_set ?_ GE152.out) | exact HB.out))⟩)
                · skip
                  refine box_step ?hg (N := 8) ?hd (cs := #[.int .i64 0, .int .i64 0]) (t := 45) ?hr ?_; (case hd => rfl); (case hg => rfl); (case hr => first | (go_simp; done) | (go_simp; rfl))
                  intro gb152 hg w50 hbox hb
                  have HS0_ := (hb.cell (World.block_lt_of_cell? _ _ (hHeld.1))).trans (hHeld.1)
                  have HS1_ := (hb.cell (World.block_lt_of_cell? _ _ (hHeld.2.1))).trans (hHeld.2.1)
                  have HS2_ := (hb.cell (World.block_lt_of_cell? _ _ (hHeld.2.2.1))).trans (hHeld.2.2.1)
                  have HS3_ := (hb.cell (World.block_lt_of_cell? _ _ (hHeld.2.2.2))).trans (hHeld.2.2.2)
                  have n0_ := Aside0.mk (Kd.R_below (Kd.R_elderB (by (with_reducible repeat (first | apply Kd.R_alloc | apply Kd.R_drewN | apply Kd.R_drew)); exact HO145.out) gb152 (Nat.le_of_eq hg.symm)) hb)
                  have n1_ := Aside0.mk (Kd.R_below (Kd.R_elderB (by (with_reducible repeat (first | apply Kd.R_alloc | apply Kd.R_drewN | apply Kd.R_drew)); exact HO148.out) gb152 (Nat.le_of_eq hg.symm)) hb)
                  have n2_ := Aside0.mk (below_step (by repeat (first | (with_reducible first | exact HB.out | apply below_alloc | apply pw_below_drewN | apply below_drew1) | exact HB.out)) hb)
                  have n3_ := Aside0.mk (hbox)
                  have n4_ := Aside0.mk ((by rw [hg]; exact (below_size (by repeat (first | (with_reducible first | exact HB.out | apply below_alloc | apply pw_below_drewN | apply below_drew1) | exact HB.out))) : w.heap.size ≤ gb152))
                  have n5_ := Aside0.mk ((by rw [hg]; exact (below_size (by repeat (first | (with_reducible first | exact HB.out | apply below_alloc | apply pw_below_drewN | apply below_drew1) | exact HB.out))) : w.heap.size ≤ gb152))
                  clear HO145
                  clear HO148
                  clear HB
                  have HO145 := n0_
                  have HO148 := n1_
                  have HB := n2_
                  have BK152 := n3_
                  have GW152 := n4_
                  have GE152 := n5_
                  clear n0_ n1_ n2_ n3_ n4_ n5_
                  clear hb hbox hg
                  refine hK.out _ _ ⟨HS0_, HS1_, HS2_, HS3_⟩ (fun hHeld => ?_)
                  clear hK K
                  refine norm_ (a' := ?_) ?_ ?_
                  rotate_left
                  · show Act.put _ (some 8) _ = _
                    simp only [Act.put, List.setIfInBounds_toArray, List.set_cons_zero, List.set_cons_succ, i64_w, i32_w]
                    rfl
                  refine one_ (i := 6) (N := some 7) #[true, true, true, true, true, true, true, true, false, false] rfl rfl (one_of HT_.out (by kernel_rfl)) (by decide) (fun K hK => ?_)
                  refine box_step ?hg (N := 7) ?hd (cs := #[.int .i64 0, .int .i64 0]) (t := 45) ?hr ?_; (case hd => rfl); (case hg => rfl); (case hr => first | (go_simp; done) | (go_simp; rfl))
                  intro gb151 hg w51 hbox hb
                  have HS0_ := (hb.cell (World.block_lt_of_cell? _ _ (hHeld.1))).trans (hHeld.1)
                  have HS1_ := (hb.cell (World.block_lt_of_cell? _ _ (hHeld.2.1))).trans (hHeld.2.1)
                  have HS2_ := (hb.cell (World.block_lt_of_cell? _ _ (hHeld.2.2.1))).trans (hHeld.2.2.1)
                  have HS3_ := (hb.cell (World.block_lt_of_cell? _ _ (hHeld.2.2.2))).trans (hHeld.2.2.2)
                  have n0_ := Aside0.mk (Kd.R_below (Kd.R_elderB (by (with_reducible repeat (first | apply Kd.R_alloc | apply Kd.R_drewN | apply Kd.R_drew)); exact HO145.out) gb151 (Nat.le_of_eq hg.symm)) hb)
                  have n1_ := Aside0.mk (Kd.R_below (Kd.R_elderB (by (with_reducible repeat (first | apply Kd.R_alloc | apply Kd.R_drewN | apply Kd.R_drew)); exact HO148.out) gb151 (Nat.le_of_eq hg.symm)) hb)
                  have n2_ := Aside0.mk (blk_below (g := gb152) (o := .cells #[.int .i64 0, .int .i64 0] 45 (0, 0)) (by (with_reducible repeat (first | refine blk_drewN ?_ _ | refine blk_drew ?_ | refine blk_alloc ?_ _)); exact BK152.out) hb)
                  have n3_ := Aside0.mk (below_step (by repeat (first | (with_reducible first | exact HB.out | apply below_alloc | apply pw_below_drewN | apply below_drew1 | refine below_set ?_ GE152.out) | exact HB.out)) hb)
                  have n4_ := Aside0.mk (hbox)
                  have n5_ := Aside0.mk ((by rw [hg]; exact (below_size (by repeat (first | (with_reducible first | exact HB.out | apply below_alloc | apply pw_below_drewN | apply below_drew1 | refine below_set ?_ GE152.out) | exact HB.out))) : w.heap.size ≤ gb151))
                  have n6_ := Aside0.mk ((by rw [hg]; exact (below_size (by repeat (first | (with_reducible first | exact HB.out | apply below_alloc | apply pw_below_drewN | apply below_drew1 | refine below_set ?_ GE152.out) | exact HB.out))) : w.heap.size ≤ gb151))
                  have n7_ := Aside0.mk ((by rw [hg]; exact Nat.ne_of_lt (blk_lt (g := gb152) (o := .cells #[.int .i64 0, .int .i64 0] 45 (0, 0)) (by (with_reducible repeat (first | refine blk_drewN ?_ _ | refine blk_drew ?_ | refine blk_alloc ?_ _)); exact BK152.out)) : gb152 ≠ gb151))
                  have n8_ := Aside0.mk ((by rw [hg]; exact Nat.ne_of_gt (blk_lt (g := gb152) (o := .cells #[.int .i64 0, .int .i64 0] 45 (0, 0)) (by (with_reducible repeat (first | refine blk_drewN ?_ _ | refine blk_drew ?_ | refine blk_alloc ?_ _)); exact BK152.out)) : gb151 ≠ gb152))
                  clear HO145
                  clear HO148
                  clear BK152
                  clear HB
                  have HO145 := n0_
                  have HO148 := n1_
                  have BK152 := n2_
                  have HB := n3_
                  have BK151 := n4_
                  have GW151 := n5_
                  have GE151 := n6_
                  have NB152_151 := n7_
                  have NB151_152 := n8_
                  clear n0_ n1_ n2_ n3_ n4_ n5_ n6_ n7_ n8_
                  clear hb hbox hg
                  refine hK.out _ _ ⟨HS0_, HS1_, HS2_, HS3_⟩ (fun hHeld => ?_)
                  clear hK K
                  refine norm_ (a' := ?_) ?_ ?_
                  rotate_left
                  · show Act.put _ (some 7) _ = _
                    simp only [Act.put, List.setIfInBounds_toArray, List.set_cons_zero, List.set_cons_succ, i64_w, i32_w]
                    rfl
                  exact norm_ (by simp only [putAll, Act.put, List.setIfInBounds_toArray, List.set_cons_zero, List.set_cons_succ]) (hCont (gb151, gb152) _ ⟨hHeld, (by (with_reducible repeat (first | apply Kd.R_alloc | apply Kd.R_drewN | apply Kd.R_drew)); exact Kd.R_mono HO145.out (fun _ hk => ⟨hk.1.1.2, ⟨hk.2, hk.1.2⟩⟩)), (by (with_reducible repeat (first | apply Kd.R_alloc | apply Kd.R_drewN | apply Kd.R_drew)); exact Kd.R_mono HO148.out (fun _ hk => ⟨hk.1.1, ⟨hk.2, hk.1.2⟩⟩)), (by (with_reducible repeat (first | refine blk_drewN ?_ _ | refine blk_drew ?_ | refine blk_alloc ?_ _)); exact BK151.out), (by (with_reducible repeat (first | refine blk_drewN ?_ _ | refine blk_drew ?_ | refine blk_alloc ?_ _)); exact BK152.out), GW151.out, GE151.out, NB152_151.out, NB151_152.out, GW152.out, GE152.out, (by repeat (first | (with_reducible first | exact HB.out | apply below_alloc | apply pw_below_drewN | apply below_drew1 | refine below_set ?_ GE152.out | refine below_set ?_ GE151.out) | exact HB.out))⟩)
              rintro ⟨gb151, gb152⟩ w52 ⟨hS_, h0_, h1_, h2_, h3_, h4_, h5_, h6_, h7_, h8_, h9_, h10_⟩
              have n0_ : Aside0 (Kd.R k45 45 w52 w.heap.size (fun k_ => some k_ ≠ (.slice (some ad149) y146.length co49 : Value).ownBlock ∧ k_ ≠ gb151 ∧ k_ ≠ gb152) (.slice Ao47 y143.length co47) y143) := ⟨h0_⟩
              have n1_ : Aside0 (Kd.R k45 45 w52 w.heap.size (fun k_ => some k_ ≠ (.slice Ao47 y143.length co47 : Value).ownBlock ∧ k_ ≠ gb151 ∧ k_ ≠ gb152) (.slice (some ad149) y146.length co49) y146) := ⟨h1_⟩
              have n2_ : Aside0 (w52.heap[gb151]? = some (.cells #[.int .i64 0, .int .i64 0] 45 (0, 0))) := ⟨h2_⟩
              have n3_ : Aside0 (w52.heap[gb152]? = some (.cells #[.int .i64 0, .int .i64 0] 45 (0, 0))) := ⟨h3_⟩
              have n4_ : Aside0 (w.heap.size ≤ gb151) := ⟨h4_⟩
              have n5_ : Aside0 (w.heap.size ≤ gb151) := ⟨h5_⟩
              have n6_ : Aside0 (gb152 ≠ gb151) := ⟨h6_⟩
              have n7_ : Aside0 (gb151 ≠ gb152) := ⟨h7_⟩
              have n8_ : Aside0 (w.heap.size ≤ gb152) := ⟨h8_⟩
              have n9_ : Aside0 (w.heap.size ≤ gb152) := ⟨h9_⟩
              have n10_ : Aside0 (Below w.heap.size w w52) := ⟨h10_⟩
              clear HO145
              clear HO148
              clear HB
              clear h0_ h1_ h2_ h3_ h4_ h5_ h6_ h7_ h8_ h9_ h10_
              have HO145 := n0_
              have HO148 := n1_
              have BK151 := n2_
              have BK152 := n3_
              have GW151 := n4_
              have GE151 := n5_
              have NB152_151 := n6_
              have NB151_152 := n7_
              have GW152 := n8_
              have GE152 := n9_
              have HB := n10_
              clear n0_ n1_ n2_ n3_ n4_ n5_ n6_ n7_ n8_ n9_ n10_
              have hHeld : w52.cell? ⟨ad149.block, ad149.off + 4, none⟩ = some (.int .i64 ((rd_T45 y146 2).f0)) ∧ w52.cell? ⟨ad149.block, ad149.off + 4 + 1, none⟩ = some (.int .i64 ((rd_T45 y146 2).f1)) ∧ w52.cell? ⟨ad149.block, ad149.off + 6, none⟩ = some (.int .i64 ((rd_T45 y146 3).f0)) ∧ w52.cell? ⟨ad149.block, ad149.off + 6 + 1, none⟩ = some (.int .i64 ((rd_T45 y146 3).f1)) := hS_
              refine norm_ (a' := ?_) ?_ ?_
              rotate_left
              · simp only [putAll, Act.put, List.setIfInBounds_toArray, List.set_cons_zero, List.set_cons_succ]
                rfl
              refine one_ (i := 8) (N := none) #[true, true, true, true, true, true, true, true, true, false] rfl rfl (one_of HT_.out (by kernel_rfl)) (by decide) (fun K hK => ?_)
              have hs53 : w52.cell? ⟨gb151, 0, none⟩ = some (.int .i64 0) := (blk_cell BK151.out 0).trans rfl
              have hfs53 := blk_frozen BK151.out 0
              have hns53_1 := NB152_151.out
              have hms53_1 := NB151_152.out
              have hs54 : w52.cell? ⟨gb151, 1, none⟩ = some (.int .i64 0) := (blk_cell BK151.out 1).trans rfl
              have hfs54 := blk_frozen BK151.out 1
              have hns54_1 := NB152_151.out
              have hms54_1 := NB151_152.out
              refine skip_ (w1 := ?_) (by rfl) rfl ?_ ?_
              rotate_left
              · go_simp
                rfl
              refine hK.out _ _ ⟨((cell_far (p := ⟨gb151, _, none⟩) (by first | exact Kd.own_blk (Kd.R_away HO148.out (fun _ hk => hk.2.1)) | (rw [add_block]; exact Kd.own_blk (Kd.R_away HO148.out (fun _ hk => hk.2.1))) | (show (Addr.add _ _).block ≠ _; rw [add_block]; exact Kd.own_blk (Kd.R_away HO148.out (fun _ hk => hk.2.1))) | (dsimp only; exact Kd.own_blk (Kd.R_away HO148.out (fun _ hk => hk.2.1)))) _).trans (((cell_far (p := ⟨gb151, _, none⟩) (by first | exact Kd.own_blk (Kd.R_away HO148.out (fun _ hk => hk.2.1)) | (rw [add_block]; exact Kd.own_blk (Kd.R_away HO148.out (fun _ hk => hk.2.1))) | (show (Addr.add _ _).block ≠ _; rw [add_block]; exact Kd.own_blk (Kd.R_away HO148.out (fun _ hk => hk.2.1))) | (dsimp only; exact Kd.own_blk (Kd.R_away HO148.out (fun _ hk => hk.2.1)))) _).trans (hHeld.1)))), ((cell_far (p := ⟨gb151, _, none⟩) (by first | exact Kd.own_blk (Kd.R_away HO148.out (fun _ hk => hk.2.1)) | (rw [add_block]; exact Kd.own_blk (Kd.R_away HO148.out (fun _ hk => hk.2.1))) | (show (Addr.add _ _).block ≠ _; rw [add_block]; exact Kd.own_blk (Kd.R_away HO148.out (fun _ hk => hk.2.1))) | (dsimp only; exact Kd.own_blk (Kd.R_away HO148.out (fun _ hk => hk.2.1)))) _).trans (((cell_far (p := ⟨gb151, _, none⟩) (by first | exact Kd.own_blk (Kd.R_away HO148.out (fun _ hk => hk.2.1)) | (rw [add_block]; exact Kd.own_blk (Kd.R_away HO148.out (fun _ hk => hk.2.1))) | (show (Addr.add _ _).block ≠ _; rw [add_block]; exact Kd.own_blk (Kd.R_away HO148.out (fun _ hk => hk.2.1))) | (dsimp only; exact Kd.own_blk (Kd.R_away HO148.out (fun _ hk => hk.2.1)))) _).trans (hHeld.2.1)))), ((cell_far (p := ⟨gb151, _, none⟩) (by first | exact Kd.own_blk (Kd.R_away HO148.out (fun _ hk => hk.2.1)) | (rw [add_block]; exact Kd.own_blk (Kd.R_away HO148.out (fun _ hk => hk.2.1))) | (show (Addr.add _ _).block ≠ _; rw [add_block]; exact Kd.own_blk (Kd.R_away HO148.out (fun _ hk => hk.2.1))) | (dsimp only; exact Kd.own_blk (Kd.R_away HO148.out (fun _ hk => hk.2.1)))) _).trans (((cell_far (p := ⟨gb151, _, none⟩) (by first | exact Kd.own_blk (Kd.R_away HO148.out (fun _ hk => hk.2.1)) | (rw [add_block]; exact Kd.own_blk (Kd.R_away HO148.out (fun _ hk => hk.2.1))) | (show (Addr.add _ _).block ≠ _; rw [add_block]; exact Kd.own_blk (Kd.R_away HO148.out (fun _ hk => hk.2.1))) | (dsimp only; exact Kd.own_blk (Kd.R_away HO148.out (fun _ hk => hk.2.1)))) _).trans (hHeld.2.2.1)))), ((cell_far (p := ⟨gb151, _, none⟩) (by first | exact Kd.own_blk (Kd.R_away HO148.out (fun _ hk => hk.2.1)) | (rw [add_block]; exact Kd.own_blk (Kd.R_away HO148.out (fun _ hk => hk.2.1))) | (show (Addr.add _ _).block ≠ _; rw [add_block]; exact Kd.own_blk (Kd.R_away HO148.out (fun _ hk => hk.2.1))) | (dsimp only; exact Kd.own_blk (Kd.R_away HO148.out (fun _ hk => hk.2.1)))) _).trans (((cell_far (p := ⟨gb151, _, none⟩) (by first | exact Kd.own_blk (Kd.R_away HO148.out (fun _ hk => hk.2.1)) | (rw [add_block]; exact Kd.own_blk (Kd.R_away HO148.out (fun _ hk => hk.2.1))) | (show (Addr.add _ _).block ≠ _; rw [add_block]; exact Kd.own_blk (Kd.R_away HO148.out (fun _ hk => hk.2.1))) | (dsimp only; exact Kd.own_blk (Kd.R_away HO148.out (fun _ hk => hk.2.1)))) _).trans (hHeld.2.2.2))))⟩ (fun hHeld => ?_)
              clear hK K
              refine one_ (i := 9) (N := none) #[true, true, true, true, true, true, true, true, true, true] rfl rfl (one_of HT_.out (by kernel_rfl)) (by decide) (fun K hK => ?_)
              have hs55 : w52.cell? ⟨gb152, 0, none⟩ = some (.int .i64 0) := (blk_cell BK152.out 0).trans rfl
              have hfs55 := blk_frozen BK152.out 0
              have hns55_0 := NB151_152.out
              have hms55_0 := NB152_151.out
              have hs56 : w52.cell? ⟨gb152, 1, none⟩ = some (.int .i64 0) := (blk_cell BK152.out 1).trans rfl
              have hfs56 := blk_frozen BK152.out 1
              have hns56_0 := NB151_152.out
              have hms56_0 := NB152_151.out
              refine skip_ (w1 := ?_) (by rfl) rfl ?_ ?_
              rotate_left
              · go_simp
                rfl
              refine hK.out _ _ ⟨((cell_far (p := ⟨gb152, _, none⟩) (by first | exact Kd.own_blk (Kd.R_away HO148.out (fun _ hk => hk.2.2)) | (rw [add_block]; exact Kd.own_blk (Kd.R_away HO148.out (fun _ hk => hk.2.2))) | (show (Addr.add _ _).block ≠ _; rw [add_block]; exact Kd.own_blk (Kd.R_away HO148.out (fun _ hk => hk.2.2))) | (dsimp only; exact Kd.own_blk (Kd.R_away HO148.out (fun _ hk => hk.2.2)))) _).trans (((cell_far (p := ⟨gb152, _, none⟩) (by first | exact Kd.own_blk (Kd.R_away HO148.out (fun _ hk => hk.2.2)) | (rw [add_block]; exact Kd.own_blk (Kd.R_away HO148.out (fun _ hk => hk.2.2))) | (show (Addr.add _ _).block ≠ _; rw [add_block]; exact Kd.own_blk (Kd.R_away HO148.out (fun _ hk => hk.2.2))) | (dsimp only; exact Kd.own_blk (Kd.R_away HO148.out (fun _ hk => hk.2.2)))) _).trans (hHeld.1)))), ((cell_far (p := ⟨gb152, _, none⟩) (by first | exact Kd.own_blk (Kd.R_away HO148.out (fun _ hk => hk.2.2)) | (rw [add_block]; exact Kd.own_blk (Kd.R_away HO148.out (fun _ hk => hk.2.2))) | (show (Addr.add _ _).block ≠ _; rw [add_block]; exact Kd.own_blk (Kd.R_away HO148.out (fun _ hk => hk.2.2))) | (dsimp only; exact Kd.own_blk (Kd.R_away HO148.out (fun _ hk => hk.2.2)))) _).trans (((cell_far (p := ⟨gb152, _, none⟩) (by first | exact Kd.own_blk (Kd.R_away HO148.out (fun _ hk => hk.2.2)) | (rw [add_block]; exact Kd.own_blk (Kd.R_away HO148.out (fun _ hk => hk.2.2))) | (show (Addr.add _ _).block ≠ _; rw [add_block]; exact Kd.own_blk (Kd.R_away HO148.out (fun _ hk => hk.2.2))) | (dsimp only; exact Kd.own_blk (Kd.R_away HO148.out (fun _ hk => hk.2.2)))) _).trans (hHeld.2.1)))), ((cell_far (p := ⟨gb152, _, none⟩) (by first | exact Kd.own_blk (Kd.R_away HO148.out (fun _ hk => hk.2.2)) | (rw [add_block]; exact Kd.own_blk (Kd.R_away HO148.out (fun _ hk => hk.2.2))) | (show (Addr.add _ _).block ≠ _; rw [add_block]; exact Kd.own_blk (Kd.R_away HO148.out (fun _ hk => hk.2.2))) | (dsimp only; exact Kd.own_blk (Kd.R_away HO148.out (fun _ hk => hk.2.2)))) _).trans (((cell_far (p := ⟨gb152, _, none⟩) (by first | exact Kd.own_blk (Kd.R_away HO148.out (fun _ hk => hk.2.2)) | (rw [add_block]; exact Kd.own_blk (Kd.R_away HO148.out (fun _ hk => hk.2.2))) | (show (Addr.add _ _).block ≠ _; rw [add_block]; exact Kd.own_blk (Kd.R_away HO148.out (fun _ hk => hk.2.2))) | (dsimp only; exact Kd.own_blk (Kd.R_away HO148.out (fun _ hk => hk.2.2)))) _).trans (hHeld.2.2.1)))), ((cell_far (p := ⟨gb152, _, none⟩) (by first | exact Kd.own_blk (Kd.R_away HO148.out (fun _ hk => hk.2.2)) | (rw [add_block]; exact Kd.own_blk (Kd.R_away HO148.out (fun _ hk => hk.2.2))) | (show (Addr.add _ _).block ≠ _; rw [add_block]; exact Kd.own_blk (Kd.R_away HO148.out (fun _ hk => hk.2.2))) | (dsimp only; exact Kd.own_blk (Kd.R_away HO148.out (fun _ hk => hk.2.2)))) _).trans (((cell_far (p := ⟨gb152, _, none⟩) (by first | exact Kd.own_blk (Kd.R_away HO148.out (fun _ hk => hk.2.2)) | (rw [add_block]; exact Kd.own_blk (Kd.R_away HO148.out (fun _ hk => hk.2.2))) | (show (Addr.add _ _).block ≠ _; rw [add_block]; exact Kd.own_blk (Kd.R_away HO148.out (fun _ hk => hk.2.2))) | (dsimp only; exact Kd.own_blk (Kd.R_away HO148.out (fun _ hk => hk.2.2)))) _).trans (hHeld.2.2.2))))⟩ (fun hHeld => ?_)
              clear hK K
              refine done_ (done_of HT_.out (by kernel_rfl)) ?_
              go_upto_block 0 with (fail)
              go_cut [] (fun wc => ∃ (kq : Nat) (x152000_42 : Int) (x152001_42 : Int) (x153000_42 : Int) (x153001_42 : Int), Aside0 (clock_Read.j1 kq y146 x152000_42 x152001_42 x153000_42 x153001_42 = some (r1, r2)) ∧ Aside0 (kq ≤ kj2) ∧ Aside0 (Kd.R k45 45 wc w.heap.size (fun k_ => k_ ≠ gb151 ∧ k_ ≠ gb152) (.slice (some ad149) y146.length co49) y146) ∧ Aside0 (wc.heap[gb151]? = some (.cells #[.int .i64 x152000_42, .int .i64 x152001_42] 45 (0, 0))) ∧ Aside0 (wc.heap[gb152]? = some (.cells #[.int .i64 x153000_42, .int .i64 x153001_42] 45 (0, 0))) ∧ Aside0 (Below w.heap.size w wc))
              case first =>
                have H := HC43.out
                clear HC43
                by_cases c57 : t127.toList = ([58] : List UInt8)
                · rw [if_pos c57] at H
                  have c57b0 : (t127.toList == ([58] : List UInt8)) = true := beq_iff_eq.mpr c57
                  have c57b1 : (t127.toList != ([58] : List UInt8)) = false := bne_eq_false_iff_eq.mpr c57
                  clear c57
                  (first | rw [c57b0] | (simp only [i64_w, i32_w]; rw [c57b0]) | skip)
                  have H' := Aside0.mk H
                  clear H
                  have hnb58 := NB151_152.out
                  have hnc58 := NB152_151.out
                  have hcz59_0 : w52.cell? ⟨gb151, 0, none⟩ = some (.int .i64 0) := (blk_cell BK151.out 0).trans rfl
                  have hcz59_1 : w52.cell? ⟨gb151, 1, none⟩ = some (.int .i64 0) := (blk_cell BK151.out 1).trans rfl
                  have hfz59_0 := blk_frozen BK151.out 0
                  have hfz59_1 := blk_frozen BK151.out 1
                  have hcz60_0 : w52.cell? ⟨gb152, 0, none⟩ = some (.int .i64 0) := (blk_cell BK152.out 0).trans rfl
                  have hcz60_1 : w52.cell? ⟨gb152, 1, none⟩ = some (.int .i64 0) := (blk_cell BK152.out 1).trans rfl
                  have hfz60_0 := blk_frozen BK152.out 0
                  have hfz60_1 := blk_frozen BK152.out 1
                  go_wp2
                  go_meet
                  case rel => exact ⟨_, (0), (2), (0), (6), H', ⟨by have := HJ2.out; first | omega | exact Nat.le_refl _⟩, ⟨by (with_reducible repeat (first | apply Kd.R_alloc | apply Kd.R_drewN | apply Kd.R_drew)); exact Kd.R_mono (Kd.R_far (p := ⟨gb152, 1, none⟩) (Kd.R_far (p := ⟨gb152, 0, none⟩) (Kd.R_far (p := ⟨gb151, 1, none⟩) (Kd.R_far (p := ⟨gb151, 0, none⟩) (Kd.R_far (p := ⟨gb152, 1, none⟩) (Kd.R_far (p := ⟨gb152, 0, none⟩) (Kd.R_far (p := ⟨gb151, 1, none⟩) (Kd.R_far (p := ⟨gb151, 0, none⟩) (Kd.R_mono (Kd.R_mono HO148.out (fun k_ hk => (⟨hk, hk.2.1⟩ : _ ∧ k_ ≠ gb151))) (fun k_ hk => (⟨hk, hk.1.2.2⟩ : _ ∧ k_ ≠ gb152))) (fun _ hk => hk.1.2) (.int .i64 ((rd_T45 y146 2).f0))) (fun _ hk => hk.1.2) (.int .i64 ((rd_T45 y146 2).f1))) (fun _ hk => hk.2) (.int .i64 ((rd_T45 y146 3).f0))) (fun _ hk => hk.2) (.int .i64 ((rd_T45 y146 3).f1))) (fun _ hk => hk.1.2) (.int .i64 0)) (fun _ hk => hk.1.2) (.int .i64 2)) (fun _ hk => hk.2) (.int .i64 0)) (fun _ hk => hk.2) (.int .i64 6)) (fun _ hk => ⟨hk.1.1.2.1, hk.1.1.2.2⟩)⟩, ⟨by (with_reducible repeat (first | refine blk_drewN ?_ _ | refine blk_drew ?_ | refine blk_alloc ?_ _)); refine blk_far ?_ NB151_152.out _; (with_reducible repeat (first | refine blk_drewN ?_ _ | refine blk_drew ?_ | refine blk_alloc ?_ _)); refine blk_far ?_ NB151_152.out _; (with_reducible repeat (first | refine blk_drewN ?_ _ | refine blk_drew ?_ | refine blk_alloc ?_ _)); refine blk_put (cs := #[.int .i64 0, .int .i64 ((rd_T45 y146 2).f1)]) ?_ 1 _ rfl; (with_reducible repeat (first | refine blk_drewN ?_ _ | refine blk_drew ?_ | refine blk_alloc ?_ _)); refine blk_put (cs := #[.int .i64 ((rd_T45 y146 2).f0), .int .i64 ((rd_T45 y146 2).f1)]) ?_ 0 _ rfl; (with_reducible repeat (first | refine blk_drewN ?_ _ | refine blk_drew ?_ | refine blk_alloc ?_ _)); refine blk_far ?_ NB151_152.out _; (with_reducible repeat (first | refine blk_drewN ?_ _ | refine blk_drew ?_ | refine blk_alloc ?_ _)); refine blk_far ?_ NB151_152.out _; (with_reducible repeat (first | refine blk_drewN ?_ _ | refine blk_drew ?_ | refine blk_alloc ?_ _)); refine blk_put (cs := #[.int .i64 ((rd_T45 y146 2).f0), .int .i64 0]) ?_ 1 _ rfl; (with_reducible repeat (first | refine blk_drewN ?_ _ | refine blk_drew ?_ | refine blk_alloc ?_ _)); refine blk_put (cs := #[.int .i64 0, .int .i64 0]) ?_ 0 _ rfl; (with_reducible repeat (first | refine blk_drewN ?_ _ | refine blk_drew ?_ | refine blk_alloc ?_ _)); exact BK151.out⟩, ⟨by (with_reducible repeat (first | refine blk_drewN ?_ _ | refine blk_drew ?_ | refine blk_alloc ?_ _)); refine blk_put (cs := #[.int .i64 0, .int .i64 ((rd_T45 y146 3).f1)]) ?_ 1 _ rfl; (with_reducible repeat (first | refine blk_drewN ?_ _ | refine blk_drew ?_ | refine blk_alloc ?_ _)); refine blk_put (cs := #[.int .i64 ((rd_T45 y146 3).f0), .int .i64 ((rd_T45 y146 3).f1)]) ?_ 0 _ rfl; (with_reducible repeat (first | refine blk_drewN ?_ _ | refine blk_drew ?_ | refine blk_alloc ?_ _)); refine blk_far ?_ NB152_151.out _; (with_reducible repeat (first | refine blk_drewN ?_ _ | refine blk_drew ?_ | refine blk_alloc ?_ _)); refine blk_far ?_ NB152_151.out _; (with_reducible repeat (first | refine blk_drewN ?_ _ | refine blk_drew ?_ | refine blk_alloc ?_ _)); refine blk_put (cs := #[.int .i64 ((rd_T45 y146 3).f0), .int .i64 0]) ?_ 1 _ rfl; (with_reducible repeat (first | refine blk_drewN ?_ _ | refine blk_drew ?_ | refine blk_alloc ?_ _)); refine blk_put (cs := #[.int .i64 0, .int .i64 0]) ?_ 0 _ rfl; (with_reducible repeat (first | refine blk_drewN ?_ _ | refine blk_drew ?_ | refine blk_alloc ?_ _)); refine blk_far ?_ NB152_151.out _; (with_reducible repeat (first | refine blk_drewN ?_ _ | refine blk_drew ?_ | refine blk_alloc ?_ _)); refine blk_far ?_ NB152_151.out _; (with_reducible repeat (first | refine blk_drewN ?_ _ | refine blk_drew ?_ | refine blk_alloc ?_ _)); exact BK152.out⟩, ⟨by repeat (first | (with_reducible first | exact HB.out | apply below_alloc | apply pw_below_drewN | apply below_drew1 | refine below_set ?_ GE151.out | refine below_set ?_ GE152.out) | exact HB.out)⟩⟩
                · rw [if_neg c57] at H
                  have c57b0 : (t127.toList == ([58] : List UInt8)) = false := beq_eq_false_iff_ne.mpr c57
                  have c57b1 : (t127.toList != ([58] : List UInt8)) = true := bne_iff_ne.mpr c57
                  (first | rw [c57b0] | (simp only [i64_w, i32_w]; rw [c57b0]) | skip)
                  by_cases c61 : t127.toList = ([58, 58] : List UInt8)
                  · rw [if_pos c61] at H
                    have c61b0 : (t127.toList == ([58, 58] : List UInt8)) = true := beq_iff_eq.mpr c61
                    have c61b1 : (t127.toList != ([58, 58] : List UInt8)) = false := bne_eq_false_iff_eq.mpr c61
                    clear c61
                    have H' := Aside0.mk H
                    clear H
                    have hnb62 := NB152_151.out
                    have hnc62 := NB151_152.out
                    have hcz63_0 : w52.cell? ⟨gb152, 0, none⟩ = some (.int .i64 0) := (blk_cell BK152.out 0).trans rfl
                    have hcz63_1 : w52.cell? ⟨gb152, 1, none⟩ = some (.int .i64 0) := (blk_cell BK152.out 1).trans rfl
                    have hfz63_0 := blk_frozen BK152.out 0
                    have hfz63_1 := blk_frozen BK152.out 1
                    go_wp2
                    go_meet
                    case rel => exact ⟨_, ((rd_T45 y146 2).f0), ((rd_T45 y146 2).f1), (0), (6), H', ⟨by have := HJ2.out; first | omega | exact Nat.le_refl _⟩, ⟨by (with_reducible repeat (first | apply Kd.R_alloc | apply Kd.R_drewN | apply Kd.R_drew)); exact Kd.R_mono (Kd.R_far (p := ⟨gb152, 1, none⟩) (Kd.R_far (p := ⟨gb152, 0, none⟩) (Kd.R_far (p := ⟨gb152, 1, none⟩) (Kd.R_far (p := ⟨gb152, 0, none⟩) (Kd.R_far (p := ⟨gb151, 1, none⟩) (Kd.R_far (p := ⟨gb151, 0, none⟩) (Kd.R_mono (Kd.R_mono HO148.out (fun k_ hk => (⟨hk, hk.2.1⟩ : _ ∧ k_ ≠ gb151))) (fun k_ hk => (⟨hk, hk.1.2.2⟩ : _ ∧ k_ ≠ gb152))) (fun _ hk => hk.1.2) (.int .i64 ((rd_T45 y146 2).f0))) (fun _ hk => hk.1.2) (.int .i64 ((rd_T45 y146 2).f1))) (fun _ hk => hk.2) (.int .i64 ((rd_T45 y146 3).f0))) (fun _ hk => hk.2) (.int .i64 ((rd_T45 y146 3).f1))) (fun _ hk => hk.2) (.int .i64 0)) (fun _ hk => hk.2) (.int .i64 6)) (fun _ hk => ⟨hk.1.1.2.1, hk.1.1.2.2⟩)⟩, ⟨by (with_reducible repeat (first | refine blk_drewN ?_ _ | refine blk_drew ?_ | refine blk_alloc ?_ _)); refine blk_far ?_ NB151_152.out _; (with_reducible repeat (first | refine blk_drewN ?_ _ | refine blk_drew ?_ | refine blk_alloc ?_ _)); refine blk_far ?_ NB151_152.out _; (with_reducible repeat (first | refine blk_drewN ?_ _ | refine blk_drew ?_ | refine blk_alloc ?_ _)); refine blk_far ?_ NB151_152.out _; (with_reducible repeat (first | refine blk_drewN ?_ _ | refine blk_drew ?_ | refine blk_alloc ?_ _)); refine blk_far ?_ NB151_152.out _; (with_reducible repeat (first | refine blk_drewN ?_ _ | refine blk_drew ?_ | refine blk_alloc ?_ _)); refine blk_put (cs := #[.int .i64 ((rd_T45 y146 2).f0), .int .i64 0]) ?_ 1 _ rfl; (with_reducible repeat (first | refine blk_drewN ?_ _ | refine blk_drew ?_ | refine blk_alloc ?_ _)); refine blk_put (cs := #[.int .i64 0, .int .i64 0]) ?_ 0 _ rfl; (with_reducible repeat (first | refine blk_drewN ?_ _ | refine blk_drew ?_ | refine blk_alloc ?_ _)); exact BK151.out⟩, ⟨by (with_reducible repeat (first | refine blk_drewN ?_ _ | refine blk_drew ?_ | refine blk_alloc ?_ _)); refine blk_put (cs := #[.int .i64 0, .int .i64 ((rd_T45 y146 3).f1)]) ?_ 1 _ rfl; (with_reducible repeat (first | refine blk_drewN ?_ _ | refine blk_drew ?_ | refine blk_alloc ?_ _)); refine blk_put (cs := #[.int .i64 ((rd_T45 y146 3).f0), .int .i64 ((rd_T45 y146 3).f1)]) ?_ 0 _ rfl; (with_reducible repeat (first | refine blk_drewN ?_ _ | refine blk_drew ?_ | refine blk_alloc ?_ _)); refine blk_put (cs := #[.int .i64 ((rd_T45 y146 3).f0), .int .i64 0]) ?_ 1 _ rfl; (with_reducible repeat (first | refine blk_drewN ?_ _ | refine blk_drew ?_ | refine blk_alloc ?_ _)); refine blk_put (cs := #[.int .i64 0, .int .i64 0]) ?_ 0 _ rfl; (with_reducible repeat (first | refine blk_drewN ?_ _ | refine blk_drew ?_ | refine blk_alloc ?_ _)); refine blk_far ?_ NB152_151.out _; (with_reducible repeat (first | refine blk_drewN ?_ _ | refine blk_drew ?_ | refine blk_alloc ?_ _)); refine blk_far ?_ NB152_151.out _; (with_reducible repeat (first | refine blk_drewN ?_ _ | refine blk_drew ?_ | refine blk_alloc ?_ _)); exact BK152.out⟩, ⟨by repeat (first | (with_reducible first | exact HB.out | apply below_alloc | apply pw_below_drewN | apply below_drew1 | refine below_set ?_ GE151.out | refine below_set ?_ GE152.out) | exact HB.out)⟩⟩
                  · rw [if_neg c61] at H
                    have c61b0 : (t127.toList == ([58, 58] : List UInt8)) = false := beq_eq_false_iff_ne.mpr c61
                    have c61b1 : (t127.toList != ([58, 58] : List UInt8)) = true := bne_iff_ne.mpr c61
                    have H' := Aside0.mk H
                    clear H
                    go_wp2
                    go_meet
                    case rel => exact ⟨_, ((rd_T45 y146 2).f0), ((rd_T45 y146 2).f1), ((rd_T45 y146 3).f0), ((rd_T45 y146 3).f1), H', ⟨by have := HJ2.out; first | omega | exact Nat.le_refl _⟩, ⟨by (with_reducible repeat (first | apply Kd.R_alloc | apply Kd.R_drewN | apply Kd.R_drew)); exact Kd.R_mono (Kd.R_far (p := ⟨gb152, 1, none⟩) (Kd.R_far (p := ⟨gb152, 0, none⟩) (Kd.R_far (p := ⟨gb151, 1, none⟩) (Kd.R_far (p := ⟨gb151, 0, none⟩) (Kd.R_mono (Kd.R_mono HO148.out (fun k_ hk => (⟨hk, hk.2.1⟩ : _ ∧ k_ ≠ gb151))) (fun k_ hk => (⟨hk, hk.1.2.2⟩ : _ ∧ k_ ≠ gb152))) (fun _ hk => hk.1.2) (.int .i64 ((rd_T45 y146 2).f0))) (fun _ hk => hk.1.2) (.int .i64 ((rd_T45 y146 2).f1))) (fun _ hk => hk.2) (.int .i64 ((rd_T45 y146 3).f0))) (fun _ hk => hk.2) (.int .i64 ((rd_T45 y146 3).f1))) (fun _ hk => ⟨hk.1.1.2.1, hk.1.1.2.2⟩)⟩, ⟨by (with_reducible repeat (first | refine blk_drewN ?_ _ | refine blk_drew ?_ | refine blk_alloc ?_ _)); refine blk_far ?_ NB151_152.out _; (with_reducible repeat (first | refine blk_drewN ?_ _ | refine blk_drew ?_ | refine blk_alloc ?_ _)); refine blk_far ?_ NB151_152.out _; (with_reducible repeat (first | refine blk_drewN ?_ _ | refine blk_drew ?_ | refine blk_alloc ?_ _)); refine blk_put (cs := #[.int .i64 ((rd_T45 y146 2).f0), .int .i64 0]) ?_ 1 _ rfl; (with_reducible repeat (first | refine blk_drewN ?_ _ | refine blk_drew ?_ | refine blk_alloc ?_ _)); refine blk_put (cs := #[.int .i64 0, .int .i64 0]) ?_ 0 _ rfl; (with_reducible repeat (first | refine blk_drewN ?_ _ | refine blk_drew ?_ | refine blk_alloc ?_ _)); exact BK151.out⟩, ⟨by (with_reducible repeat (first | refine blk_drewN ?_ _ | refine blk_drew ?_ | refine blk_alloc ?_ _)); refine blk_put (cs := #[.int .i64 ((rd_T45 y146 3).f0), .int .i64 0]) ?_ 1 _ rfl; (with_reducible repeat (first | refine blk_drewN ?_ _ | refine blk_drew ?_ | refine blk_alloc ?_ _)); refine blk_put (cs := #[.int .i64 0, .int .i64 0]) ?_ 0 _ rfl; (with_reducible repeat (first | refine blk_drewN ?_ _ | refine blk_drew ?_ | refine blk_alloc ?_ _)); refine blk_far ?_ NB152_151.out _; (with_reducible repeat (first | refine blk_drewN ?_ _ | refine blk_drew ?_ | refine blk_alloc ?_ _)); refine blk_far ?_ NB152_151.out _; (with_reducible repeat (first | refine blk_drewN ?_ _ | refine blk_drew ?_ | refine blk_alloc ?_ _)); exact BK152.out⟩, ⟨by repeat (first | (with_reducible first | exact HB.out | apply below_alloc | apply pw_below_drewN | apply below_drew1 | refine below_set ?_ GE151.out | refine below_set ?_ GE152.out) | exact HB.out)⟩⟩
              case rest =>
                clear HC43
                try clear c1
                try clear p1
                try clear q1
                try clear hx1
                try clear qi1
                try clear c2
                try clear p2
                try clear c3
                try clear c4
                try clear c5
                try clear c6
                try clear c6b0
                try clear c6b1
                try clear c7
                try clear c7b0
                try clear c7b1
                try clear c9
                try clear c10
                try clear c10b0
                try clear c10b1
                try clear p13
                try clear q13
                try clear hx13
                try clear qi13
                try clear p14
                try clear q14
                try clear hx14
                try clear qi14
                try clear p15
                try clear q15
                try clear hx15
                try clear qi15
                try clear c17
                try clear c17b0
                try clear c17b1
                try clear c18
                try clear c18b0
                try clear c18b1
                try clear c20
                try clear c21
                try clear c21b0
                try clear c21b1
                try clear c28
                try clear c28b0
                try clear c28b1
                try clear c29
                try clear c29b0
                try clear c29b1
                try clear c31
                try clear c32
                try clear c32b0
                try clear c32b1
                try clear c33
                try clear c39
                try clear c40
                try clear c41
                try clear c41b0
                try clear c41b1
                try clear c42
                try clear c42b0
                try clear c42b1
                try clear c57
                try clear c57b0
                try clear c57b1
                try clear c58
                try clear c61
                try clear c61b0
                try clear c61b1
                try clear c62
                try clear hcz59_0
                try clear hcz59_1
                try clear hcz60_0
                try clear hcz60_1
                try clear hcz63_0
                try clear hcz63_1
                try clear hfz59_0
                try clear hfz59_1
                try clear hfz60_0
                try clear hfz60_1
                try clear hfz63_0
                try clear hfz63_1
                try clear hx131_0
                try clear hx131_1
                try clear hx133_0
                try clear hx133_1
                try clear hx135_0
                try clear hx135_1
                try clear hx137_0
                try clear hx137_1
                try clear hx139_0
                try clear hx139_1
                try clear hx141_0
                try clear hx141_1
                try clear hx149_0
                try clear hx149_1
                try clear hx150_0
                try clear hx150_1
                try clear p1
                try clear p13
                try clear p131
                try clear p133
                try clear p135
                try clear p137
                try clear p139
                try clear p14
                try clear p141
                try clear p149
                try clear p150
                try clear p2
                try clear q1
                try clear q13
                try clear q131
                try clear q133
                try clear q135
                try clear q137
                try clear q139
                try clear q14
                try clear q141
                try clear q149
                try clear q150
                obtain ⟨kq, x152000_42, x152001_42, x153000_42, x153001_42, HA, HJ42, HO_4, BK151, BK152, HB⟩ := hcut
                cases kq with
                | zero => exact absurd HA.out (by simp [clock_Read.j1])
                | succ kj42 =>
                  have H := HA.out
                  clear HA
                  simp only [clock_Read.j1] at H
                  have HC64 := Aside0.mk H
                  clear H
                  go_upto_region 11 with (fail)
                  go_cut [69] (fun v69 wc => ∃ (kq : Nat) (x69_63 : Bool), v69 = .bool x69_63 ∧ Aside0 (clock_Read.j2 kq y146 x69_63 x152000_42 x152001_42 x153000_42 x153001_42 = some (r1, r2)) ∧ Aside0 (kq ≤ kj42) ∧ Aside0 (Kd.R k45 45 wc w.heap.size (fun k_ => k_ ≠ gb151 ∧ k_ ≠ gb152) (.slice (some ad149) y146.length co49) y146) ∧ Aside0 (wc.heap[gb151]? = some (.cells #[.int .i64 x152000_42, .int .i64 x152001_42] 45 (0, 0))) ∧ Aside0 (wc.heap[gb152]? = some (.cells #[.int .i64 x153000_42, .int .i64 x153001_42] 45 (0, 0))) ∧ Aside0 (Below w.heap.size w wc))
                  case first =>
                    have H := HC64.out
                    clear HC64
                    replace H := Option.bind_eq_some_iff.mp H
                    obtain ⟨t153, A650, H⟩ := H
                    replace H : (if t153 = true then (clock_Read.j2 kj42 y146 (x153001_42 == 0) x152000_42 x152001_42 x153000_42 x153001_42) else (clock_Read.j2 kj42 y146 true x152000_42 x152001_42 x153000_42 x153001_42)) = some (r1, r2) := H
                    have A65 := Aside0.mk A650
                    clear A650
                    by_cases c66 : t153 = true
                    · subst c66
                      have H1 : (clock_Read.j2 kj42 y146 (x153001_42 == 0) x152000_42 x152001_42 x153000_42 x153001_42) = some (r1, r2) := by rw [if_pos rfl] at H; exact H
                      clear H
                      have H := H1
                      clear H1
                      have H' := Aside0.mk H
                      clear H
                      have hnb67 := NB151_152.out
                      have hnc67 := NB152_151.out
                      have hcz68_0 : wc.cell? ⟨gb151, 0, none⟩ = some (.int .i64 x152000_42) := (blk_cell BK151.out 0).trans rfl
                      have hcz68_1 : wc.cell? ⟨gb151, 1, none⟩ = some (.int .i64 x152001_42) := (blk_cell BK151.out 1).trans rfl
                      have hfz68_0 := blk_frozen BK151.out 0
                      have hfz68_1 := blk_frozen BK151.out 1
                      go_wp2_with (first | ((with_reducible refine gate_callee (f := 35) rfl ?_); refine goesL_ (some 63) rfl rfl Try.func35 (by kernel_rfl) rfl #[.agg #[.int .i64 x152000_42, .int .i64 x152001_42]] rfl (by (try simp only [List.map_toArray, List.map_cons, List.map_nil]); first | done | rfl | (simp only [List.length_drop, List.length_take]; rfl)) ?_; (with_reducible refine (clock_group_two.calls x152000_42 x152001_42 true _ A65.out).mono ?_); rintro e w69 ⟨rfl, hb⟩; refine ⟨_, rfl, ?_⟩; have n0_ := Aside0.mk (Kd.R_below (by (with_reducible repeat (first | apply Kd.R_alloc | apply Kd.R_drewN | apply Kd.R_drew)); exact HO_4.out) hb); have n1_ := Aside0.mk (blk_below (g := gb151) (o := .cells #[.int .i64 x152000_42, .int .i64 x152001_42] 45 (0, 0)) (by (with_reducible repeat (first | refine blk_drewN ?_ _ | refine blk_drew ?_ | refine blk_alloc ?_ _)); exact BK151.out) hb); have n2_ := Aside0.mk (blk_below (g := gb152) (o := .cells #[.int .i64 x153000_42, .int .i64 x153001_42] 45 (0, 0)) (by (with_reducible repeat (first | refine blk_drewN ?_ _ | refine blk_drew ?_ | refine blk_alloc ?_ _)); exact BK152.out) hb); have n3_ := Aside0.mk (below_step (by repeat (first | (with_reducible first | exact HB.out | apply below_alloc | apply pw_below_drewN | apply below_drew1 | refine below_set ?_ GE151.out | refine below_set ?_ GE152.out) | exact HB.out)) hb); clear HO_4; clear BK151; clear BK152; clear HB; have HO_4 := n0_; have BK151 := n1_; have BK152 := n2_; have HB := n3_; clear n0_ n1_ n2_ n3_; (try clear hb); (try clear hb2); (try clear hk); (try clear hi); have hcz70_0 : w69.cell? ⟨gb152, 0, none⟩ = some (.int .i64 x153000_42) := (blk_cell BK152.out 0).trans rfl; have hcz70_1 : w69.cell? ⟨gb152, 1, none⟩ = some (.int .i64 x153001_42) := (blk_cell BK152.out 1).trans rfl; have hfz70_0 := blk_frozen BK152.out 0; have hfz70_1 := blk_frozen BK152.out 1))
                      go_meet
                      case rel => exact ⟨_, ((x153001_42 == 0)), (by first | rfl | (simp; done) | (simp [*]; done)), H', ⟨by have := HJ2.out; have := HJ42.out; first | omega | exact Nat.le_refl _⟩, ⟨by (with_reducible repeat (first | apply Kd.R_alloc | apply Kd.R_drewN | apply Kd.R_drew)); exact HO_4.out⟩, ⟨by (with_reducible repeat (first | refine blk_drewN ?_ _ | refine blk_drew ?_ | refine blk_alloc ?_ _)); exact BK151.out⟩, ⟨by (with_reducible repeat (first | refine blk_drewN ?_ _ | refine blk_drew ?_ | refine blk_alloc ?_ _)); exact BK152.out⟩, ⟨by repeat (first | (with_reducible first | exact HB.out | apply below_alloc | apply pw_below_drewN | apply below_drew1 | refine below_set ?_ GE151.out | refine below_set ?_ GE152.out) | exact HB.out)⟩⟩
                    · replace c66 := Bool.eq_false_iff.mpr c66
                      subst c66
                      have H1 : (clock_Read.j2 kj42 y146 true x152000_42 x152001_42 x153000_42 x153001_42) = some (r1, r2) := by rw [if_neg (show ¬ (false = true) by decide)] at H; exact H
                      clear H
                      have H := H1
                      clear H1
                      have H' := Aside0.mk H
                      clear H
                      have hnb71 := NB151_152.out
                      have hnc71 := NB152_151.out
                      have hcz72_0 : wc.cell? ⟨gb151, 0, none⟩ = some (.int .i64 x152000_42) := (blk_cell BK151.out 0).trans rfl
                      have hcz72_1 : wc.cell? ⟨gb151, 1, none⟩ = some (.int .i64 x152001_42) := (blk_cell BK151.out 1).trans rfl
                      have hfz72_0 := blk_frozen BK151.out 0
                      have hfz72_1 := blk_frozen BK151.out 1
                      go_wp2_with (first | ((with_reducible refine gate_callee (f := 35) rfl ?_); refine goesL_ (some 63) rfl rfl Try.func35 (by kernel_rfl) rfl #[.agg #[.int .i64 x152000_42, .int .i64 x152001_42]] rfl (by (try simp only [List.map_toArray, List.map_cons, List.map_nil]); first | done | rfl | (simp only [List.length_drop, List.length_take]; rfl)) ?_; (with_reducible refine (clock_group_two.calls x152000_42 x152001_42 false _ A65.out).mono ?_); rintro e w73 ⟨rfl, hb⟩; refine ⟨_, rfl, ?_⟩; have n0_ := Aside0.mk (Kd.R_below (by (with_reducible repeat (first | apply Kd.R_alloc | apply Kd.R_drewN | apply Kd.R_drew)); exact HO_4.out) hb); have n1_ := Aside0.mk (blk_below (g := gb151) (o := .cells #[.int .i64 x152000_42, .int .i64 x152001_42] 45 (0, 0)) (by (with_reducible repeat (first | refine blk_drewN ?_ _ | refine blk_drew ?_ | refine blk_alloc ?_ _)); exact BK151.out) hb); have n2_ := Aside0.mk (blk_below (g := gb152) (o := .cells #[.int .i64 x153000_42, .int .i64 x153001_42] 45 (0, 0)) (by (with_reducible repeat (first | refine blk_drewN ?_ _ | refine blk_drew ?_ | refine blk_alloc ?_ _)); exact BK152.out) hb); have n3_ := Aside0.mk (below_step (by repeat (first | (with_reducible first | exact HB.out | apply below_alloc | apply pw_below_drewN | apply below_drew1 | refine below_set ?_ GE151.out | refine below_set ?_ GE152.out) | exact HB.out)) hb); clear HO_4; clear BK151; clear BK152; clear HB; have HO_4 := n0_; have BK151 := n1_; have BK152 := n2_; have HB := n3_; clear n0_ n1_ n2_ n3_; (try clear hb); (try clear hb2); (try clear hk); (try clear hi)))
                      go_meet
                      case rel => exact ⟨_, (true), (by first | rfl | (simp; done) | (simp [*]; done)), H', ⟨by have := HJ2.out; have := HJ42.out; first | omega | exact Nat.le_refl _⟩, ⟨by (with_reducible repeat (first | apply Kd.R_alloc | apply Kd.R_drewN | apply Kd.R_drew)); exact HO_4.out⟩, ⟨by (with_reducible repeat (first | refine blk_drewN ?_ _ | refine blk_drew ?_ | refine blk_alloc ?_ _)); exact BK151.out⟩, ⟨by (with_reducible repeat (first | refine blk_drewN ?_ _ | refine blk_drew ?_ | refine blk_alloc ?_ _)); exact BK152.out⟩, ⟨by repeat (first | (with_reducible first | exact HB.out | apply below_alloc | apply pw_below_drewN | apply below_drew1 | refine below_set ?_ GE151.out | refine below_set ?_ GE152.out) | exact HB.out)⟩⟩
                  case rest =>
                    clear HC64
                    try clear c1
                    try clear p1
                    try clear q1
                    try clear hx1
                    try clear qi1
                    try clear c2
                    try clear p2
                    try clear c3
                    try clear c4
                    try clear c5
                    try clear c6
                    try clear c6b0
                    try clear c6b1
                    try clear c7
                    try clear c7b0
                    try clear c7b1
                    try clear c9
                    try clear c10
                    try clear c10b0
                    try clear c10b1
                    try clear p13
                    try clear q13
                    try clear hx13
                    try clear qi13
                    try clear p14
                    try clear q14
                    try clear hx14
                    try clear qi14
                    try clear p15
                    try clear q15
                    try clear hx15
                    try clear qi15
                    try clear c17
                    try clear c17b0
                    try clear c17b1
                    try clear c18
                    try clear c18b0
                    try clear c18b1
                    try clear c20
                    try clear c21
                    try clear c21b0
                    try clear c21b1
                    try clear c28
                    try clear c28b0
                    try clear c28b1
                    try clear c29
                    try clear c29b0
                    try clear c29b1
                    try clear c31
                    try clear c32
                    try clear c32b0
                    try clear c32b1
                    try clear c33
                    try clear c35
                    try clear c39
                    try clear c40
                    try clear c41
                    try clear c41b0
                    try clear c41b1
                    try clear c42
                    try clear c42b0
                    try clear c42b1
                    try clear c57
                    try clear c57b0
                    try clear c57b1
                    try clear c58
                    try clear c61
                    try clear c61b0
                    try clear c61b1
                    try clear c62
                    try clear c66
                    try clear c67
                    try clear c71
                    try clear hcz59_0
                    try clear hcz59_1
                    try clear hcz60_0
                    try clear hcz60_1
                    try clear hcz63_0
                    try clear hcz63_1
                    try clear hcz68_0
                    try clear hcz68_1
                    try clear hcz70_0
                    try clear hcz70_1
                    try clear hcz72_0
                    try clear hcz72_1
                    try clear hfz59_0
                    try clear hfz59_1
                    try clear hfz60_0
                    try clear hfz60_1
                    try clear hfz63_0
                    try clear hfz63_1
                    try clear hfz68_0
                    try clear hfz68_1
                    try clear hfz70_0
                    try clear hfz70_1
                    try clear hfz72_0
                    try clear hfz72_1
                    try clear hx131_0
                    try clear hx131_1
                    try clear hx133_0
                    try clear hx133_1
                    try clear hx135_0
                    try clear hx135_1
                    try clear hx137_0
                    try clear hx137_1
                    try clear hx139_0
                    try clear hx139_1
                    try clear hx141_0
                    try clear hx141_1
                    try clear hx149_0
                    try clear hx149_1
                    try clear hx150_0
                    try clear hx150_1
                    try clear p1
                    try clear p13
                    try clear p131
                    try clear p133
                    try clear p135
                    try clear p137
                    try clear p139
                    try clear p14
                    try clear p141
                    try clear p149
                    try clear p15
                    try clear p150
                    try clear p2
                    try clear q1
                    try clear q13
                    try clear q131
                    try clear q133
                    try clear q135
                    try clear q137
                    try clear q139
                    try clear q14
                    try clear q141
                    try clear q149
                    try clear q15
                    try clear q150
                    obtain ⟨kq, x69_63, rfl, HA, HJ63, HO_4, BK151, BK152, HB⟩ := hcut
                    cases kq with
                    | zero => exact absurd HA.out (by simp [clock_Read.j2])
                    | succ kj63 =>
                      have H := HA.out
                      clear HA
                      simp only [clock_Read.j2] at H
                      by_cases c74 : x69_63 = true
                      · subst c74
                        have H1 : (some (0, 13)) = some (r1, r2) := by rw [if_pos rfl] at H; exact H
                        clear H
                        have H := H1
                        clear H1
                        simp only [Option.some.injEq, Prod.mk.injEq] at H
                        obtain ⟨rfl, rfl⟩ := H
                        go_wp2
                        go_ret2
                        exact ⟨by first | rfl | (simp [errW_none, errW_some] <;> rfl) | (simp [*, errW_none, errW_some] <;> rfl), by repeat (first | (with_reducible first | exact HB.out | apply below_alloc | apply pw_below_drewN | apply below_drew1 | refine below_set ?_ GE151.out | refine below_set ?_ GE152.out) | exact HB.out)⟩
                      · replace c74 := Bool.eq_false_iff.mpr c74
                        subst c74
                        have H1 : (clock_Read.l0 kj63 y146 x152000_42 x152001_42 x153000_42 x153001_42) = some (r1, r2) := by rw [if_neg (show ¬ (false = true) by decide)] at H; exact H
                        clear H
                        have H := H1
                        clear H1
                        have H' := Aside0.mk H
                        clear H
                        go_wp2
                        go_loopg [] kj63 (fun kq w' => ∃ (x153000_4 : Int) (x153001_4 : Int), Aside0 (clock_Read.l0 kq y146 x152000_42 x152001_42 x153000_4 x153001_4 = some (r1, r2)) ∧ Aside0 (kq ≤ kj63) ∧ Aside0 (Kd.R k45 45 w' w.heap.size (fun k_ => k_ ≠ gb151 ∧ k_ ≠ gb152) (.slice (some ad149) y146.length co49) y146) ∧ Aside0 (w'.heap[gb151]? = some (.cells #[.int .i64 x152000_42, .int .i64 x152001_42] 45 (0, 0))) ∧ Aside0 (w'.heap[gb152]? = some (.cells #[.int .i64 x153000_4, .int .i64 x153001_4] 45 (0, 0))) ∧ Aside0 (Below w.heap.size w w'))
                        case atStart => exact ⟨(x153000_42), (x153001_42), H', ⟨Nat.le_refl _⟩, ⟨by (with_reducible repeat (first | apply Kd.R_alloc | apply Kd.R_drewN | apply Kd.R_drew)); exact HO_4.out⟩, ⟨by (with_reducible repeat (first | refine blk_drewN ?_ _ | refine blk_drew ?_ | refine blk_alloc ?_ _)); exact BK151.out⟩, ⟨by (with_reducible repeat (first | refine blk_drewN ?_ _ | refine blk_drew ?_ | refine blk_alloc ?_ _)); exact BK152.out⟩, ⟨by repeat (first | (with_reducible first | exact HB.out | apply below_alloc | apply pw_below_drewN | apply below_drew1 | refine below_set ?_ GE151.out | refine below_set ?_ GE152.out) | exact HB.out)⟩⟩
                        case round =>
                          clear H'
                          try clear c1
                          try clear p1
                          try clear q1
                          try clear hx1
                          try clear qi1
                          try clear c2
                          try clear p2
                          try clear c3
                          try clear c4
                          try clear c5
                          try clear c6
                          try clear c6b0
                          try clear c6b1
                          try clear c7
                          try clear c7b0
                          try clear c7b1
                          try clear c9
                          try clear c10
                          try clear c10b0
                          try clear c10b1
                          try clear p13
                          try clear q13
                          try clear hx13
                          try clear qi13
                          try clear p14
                          try clear q14
                          try clear hx14
                          try clear qi14
                          try clear p15
                          try clear q15
                          try clear hx15
                          try clear qi15
                          try clear c17
                          try clear c17b0
                          try clear c17b1
                          try clear c18
                          try clear c18b0
                          try clear c18b1
                          try clear c20
                          try clear c21
                          try clear c21b0
                          try clear c21b1
                          try clear c28
                          try clear c28b0
                          try clear c28b1
                          try clear c29
                          try clear c29b0
                          try clear c29b1
                          try clear c31
                          try clear c32
                          try clear c32b0
                          try clear c32b1
                          try clear c33
                          try clear c35
                          try clear c39
                          try clear c40
                          try clear c41
                          try clear c41b0
                          try clear c41b1
                          try clear c42
                          try clear c42b0
                          try clear c42b1
                          try clear c57
                          try clear c57b0
                          try clear c57b1
                          try clear c58
                          try clear c61
                          try clear c61b0
                          try clear c61b1
                          try clear c62
                          try clear c66
                          try clear c67
                          try clear c71
                          try clear c74
                          try clear hcz59_0
                          try clear hcz59_1
                          try clear hcz60_0
                          try clear hcz60_1
                          try clear hcz63_0
                          try clear hcz63_1
                          try clear hcz68_0
                          try clear hcz68_1
                          try clear hcz70_0
                          try clear hcz70_1
                          try clear hcz72_0
                          try clear hcz72_1
                          try clear hfz59_0
                          try clear hfz59_1
                          try clear hfz60_0
                          try clear hfz60_1
                          try clear hfz63_0
                          try clear hfz63_1
                          try clear hfz68_0
                          try clear hfz68_1
                          try clear hfz70_0
                          try clear hfz70_1
                          try clear hfz72_0
                          try clear hfz72_1
                          try clear hx131_0
                          try clear hx131_1
                          try clear hx133_0
                          try clear hx133_1
                          try clear hx135_0
                          try clear hx135_1
                          try clear hx137_0
                          try clear hx137_1
                          try clear hx139_0
                          try clear hx139_1
                          try clear hx141_0
                          try clear hx141_1
                          try clear hx149_0
                          try clear hx149_1
                          try clear hx150_0
                          try clear hx150_1
                          try clear p1
                          try clear p13
                          try clear p131
                          try clear p133
                          try clear p135
                          try clear p137
                          try clear p139
                          try clear p14
                          try clear p141
                          try clear p149
                          try clear p15
                          try clear p150
                          try clear p2
                          try clear q1
                          try clear q13
                          try clear q131
                          try clear q133
                          try clear q135
                          try clear q137
                          try clear q139
                          try clear q14
                          try clear q141
                          try clear q149
                          try clear q15
                          try clear q150
                          obtain ⟨x153000_4, x153001_4, HA, HK4, HO_4, BK151, BK152, HB⟩ := hrel
                          cases gk with
                          | zero => exact absurd HA.out (by simp [clock_Read.l0])
                          | succ k4 =>
                            have H := HA.out
                            clear HA
                            simp only [clock_Read.l0] at H
                            by_cases c75 : x153001_4 < 6
                            · rw [if_pos c75] at H
                              have c75b0 : decide (x153001_4 < 6) = true := decide_eq_true c75
                              clear c75
                              have H' := Aside0.mk H
                              clear H
                              have hnb76 := NB152_151.out
                              have hnc76 := NB151_152.out
                              have hcz77_0 : wr.cell? ⟨gb152, 0, none⟩ = some (.int .i64 x153000_4) := (blk_cell BK152.out 0).trans rfl
                              have hcz77_1 : wr.cell? ⟨gb152, 1, none⟩ = some (.int .i64 x153001_4) := (blk_cell BK152.out 1).trans rfl
                              have hfz77_0 := blk_frozen BK152.out 0
                              have hfz77_1 := blk_frozen BK152.out 1
                              go_wp2
                              go_roundg k4
                              case measure => have := HJ2.out; have := HJ42.out; have := HJ63.out; have := HK4.out; omega
                              case rel => exact ⟨(wrap64 (x153000_4 * 10)), (wrap64 (x153001_4 + 1)), H', ⟨by have := HJ2.out; have := HJ42.out; have := HJ63.out; have := HK4.out; omega⟩, ⟨by (with_reducible repeat (first | apply Kd.R_alloc | apply Kd.R_drewN | apply Kd.R_drew)); exact Kd.R_mono (Kd.R_far (p := ⟨gb152, 1, none⟩) (Kd.R_far (p := ⟨gb152, 0, none⟩) (Kd.R_mono HO_4.out (fun k_ hk => (⟨hk, hk.2⟩ : _ ∧ k_ ≠ gb152))) (fun _ hk => hk.2) (.int .i64 (wrap64 (x153000_4 * 10)))) (fun _ hk => hk.2) (.int .i64 (wrap64 (x153001_4 + 1)))) (fun _ hk => ⟨hk.1.1, hk.1.2⟩)⟩, ⟨by (with_reducible repeat (first | refine blk_drewN ?_ _ | refine blk_drew ?_ | refine blk_alloc ?_ _)); refine blk_far ?_ NB151_152.out _; (with_reducible repeat (first | refine blk_drewN ?_ _ | refine blk_drew ?_ | refine blk_alloc ?_ _)); refine blk_far ?_ NB151_152.out _; (with_reducible repeat (first | refine blk_drewN ?_ _ | refine blk_drew ?_ | refine blk_alloc ?_ _)); exact BK151.out⟩, ⟨by (with_reducible repeat (first | refine blk_drewN ?_ _ | refine blk_drew ?_ | refine blk_alloc ?_ _)); refine blk_put (cs := #[.int .i64 (wrap64 (x153000_4 * 10)), .int .i64 x153001_4]) ?_ 1 _ rfl; (with_reducible repeat (first | refine blk_drewN ?_ _ | refine blk_drew ?_ | refine blk_alloc ?_ _)); refine blk_put (cs := #[.int .i64 x153000_4, .int .i64 x153001_4]) ?_ 0 _ rfl; (with_reducible repeat (first | refine blk_drewN ?_ _ | refine blk_drew ?_ | refine blk_alloc ?_ _)); exact BK152.out⟩, ⟨by repeat (first | (with_reducible first | exact HB.out | apply below_alloc | apply pw_below_drewN | apply below_drew1 | refine below_set ?_ GE151.out | refine below_set ?_ GE152.out) | exact HB.out)⟩⟩
                            · rw [if_neg c75] at H
                              have c75b0 : decide (x153001_4 < 6) = false := decide_eq_false c75
                              clear c75
                              by_cases c78 : 0 < (y146.length : Int)
                              · rw [if_pos c78] at H
                                have c78b0 : decide (0 < (y146.length : Int)) = true := decide_eq_true c78
                                have c78b1 : decide (0 < y146.length) = true := decide_eq_true (by omega)
                                clear c78
                                by_cases c79 : 1 < (y146.length : Int)
                                · rw [if_pos c79] at H
                                  have c79b0 : decide (1 < (y146.length : Int)) = true := decide_eq_true c79
                                  have c79b1 : decide (1 < y146.length) = true := decide_eq_true (by omega)
                                  clear c79
                                  replace H := Option.bind_eq_some_iff.mp H
                                  obtain ⟨⟨t156, t157⟩, A800, H⟩ := H
                                  replace H : (some (t156, t157)) = some (r1, r2) := H
                                  have A80 := Aside0.mk A800
                                  clear A800
                                  simp only [Option.some.injEq, Prod.mk.injEq] at H
                                  obtain ⟨rfl, rfl⟩ := H
                                  have hnb81 := NB152_151.out
                                  have hnc81 := NB151_152.out
                                  have hcz82_0 : wr.cell? ⟨gb152, 0, none⟩ = some (.int .i64 x153000_4) := (blk_cell BK152.out 0).trans rfl
                                  have hcz82_1 : wr.cell? ⟨gb152, 1, none⟩ = some (.int .i64 x153001_4) := (blk_cell BK152.out 1).trans rfl
                                  have hfz82_0 := blk_frozen BK152.out 0
                                  have hfz82_1 := blk_frozen BK152.out 1
                                  try go_wp2
                                  have n0_ := Aside0.mk (Kd.R_drew HO_4.out)
                                  have n1_ := Aside0.mk (blk_drew BK151.out)
                                  have n2_ := Aside0.mk (blk_drew BK152.out)
                                  have n3_ := Aside0.mk (below_drew1 HB.out)
                                  clear HO_4
                                  clear BK151
                                  clear BK152
                                  clear HB
                                  have HO_4 := n0_
                                  have BK151 := n1_
                                  have BK152 := n2_
                                  have HB := n3_
                                  clear n0_ n1_ n2_ n3_
                                  have p154 : 0 ≤ (0 : Int) := (by omega)
                                  have q154 : 0 < (y146.length : Int) := of_decide_eq_true (by first | (with_reducible assumption) | assumption)
                                  obtain ⟨ad154, e154, hx154_0, hx154_1⟩ := at_T45 (Kd.R_reads' HO_4.out).2.2 0 p154 q154
                                  obtain rfl : ad149 = ad154 := (by injection e154)
                                  have qi154 : (0 < y146.length) = True := eq_true (by omega)
                                  (try rw [show ((0 : Int)).toNat = 0 from rfl] at hx154_0)
                                  (try rw [show 0 * 2 = 0 from rfl] at hx154_0)
                                  (try rw [Addr.add_zero'] at hx154_0)
                                  (try rw [show ((0 : Int)).toNat = 0 from rfl] at hx154_1)
                                  (try rw [show 0 * 2 = 0 from rfl] at hx154_1)
                                  (try rw [Addr.add_zero'] at hx154_1)
                                  replace p154 := eq_true p154
                                  replace q154 := eq_true q154
                                  have p155 : 0 ≤ (1 : Int) := (by omega)
                                  have q155 : 1 < (y146.length : Int) := of_decide_eq_true (by first | (with_reducible assumption) | assumption)
                                  obtain ⟨ad155, e155, hx155_0, hx155_1⟩ := at_T45 (Kd.R_reads' HO_4.out).2.2 1 p155 q155
                                  obtain rfl : ad149 = ad155 := (by injection e155)
                                  (try simp only [show (1 : Int).toNat = 1 from rfl, Nat.reduceMul, Nat.reduceEqDiff, Go.Addr.add, ↓reduceIte] at hx155_0)
                                  (try simp only [show (1 : Int).toNat = 1 from rfl, Nat.reduceMul, Nat.reduceEqDiff, Go.Addr.add, ↓reduceIte] at hx155_1)
                                  have qi155 : (1 < y146.length) = True := eq_true (by omega)
                                  (try rw [show ((1 : Int)).toNat = 1 from rfl] at hx155_0)
                                  (try rw [show 1 * 2 = 2 from rfl] at hx155_0)
                                  (try rw [show ((1 : Int)).toNat = 1 from rfl] at hx155_1)
                                  (try rw [show 1 * 2 = 2 from rfl] at hx155_1)
                                  replace p155 := eq_true p155
                                  replace q155 := eq_true q155
                                  refine start_ (n := 17) (S := fun w' => w'.cell? ⟨gb151, 0, none⟩ = some (.int .i64 x152000_42) ∧ w'.cell? ⟨gb151, 1, none⟩ = some (.int .i64 x152001_42) ∧ w'.cell? ⟨gb152, 0, none⟩ = some (.int .i64 x153000_4) ∧ w'.cell? ⟨gb152, 1, none⟩ = some (.int .i64 x153001_4) ∧ w'.cell? ad149 = some (.int .i64 ((rd_T45 y146 0).f0)) ∧ w'.cell? ⟨ad149.block, ad149.off + 1, none⟩ = some (.int .i64 ((rd_T45 y146 0).f1)) ∧ w'.cell? ⟨ad149.block, ad149.off + 2, none⟩ = some (.int .i64 ((rd_T45 y146 1).f0)) ∧ w'.cell? ⟨ad149.block, ad149.off + 2 + 1, none⟩ = some (.int .i64 ((rd_T45 y146 1).f1))) (ds := []) #[false, false, false, false, false, false, false, false, false, false, false, false, false, false, false, false, false] (by kernel_rfl) rfl rfl ⟨(blk_cell BK151.out 0).trans rfl, (blk_cell BK151.out 1).trans rfl, (blk_cell BK152.out 0).trans rfl, (blk_cell BK152.out 1).trans rfl, hx154_0, hx154_1, hx155_0, hx155_1⟩ (fun hHeld => ?_); refine with_tabW clock_Read.tab16 clock_Read.bits16 (fun HT_ HW_ => ?_)
                                  generalize wr.drew = w83 at HO_4 BK151 BK152 HB hx154_0 hx154_1 hx155_0 hx155_1 hHeld ⊢
                                  refine pure_ (i := 0) (N := some 81) (v := ?_) (a' := ?_) #[true, false, false, false, false, false, false, false, false, false, false, false, false, false, false, false, false] rfl rfl (any_of HT_.out (by kernel_rfl)) (fun _ _ _ h => h) (Or.inl ⟨by rfl, ?_⟩) ?_ ?_
                                  rotate_left
                                  · intro w'
                                    go_simp
                                    with_reducible rfl
                                  rotate_left
                                  · simp only [Act.put, List.setIfInBounds_toArray, List.set_cons_zero, List.set_cons_succ, i64_w, i32_w]
                                    rfl
                                  refine pure_ (i := 1) (N := some 82) (v := ?_) (a' := ?_) #[true, true, false, false, false, false, false, false, false, false, false, false, false, false, false, false, false] rfl rfl (any_of HT_.out (by kernel_rfl)) (fun _ _ _ h => h) (Or.inl ⟨by rfl, ?_⟩) ?_ ?_
                                  rotate_left
                                  · intro w'
                                    go_simp
                                    with_reducible rfl
                                  rotate_left
                                  · simp only [Act.put, List.setIfInBounds_toArray, List.set_cons_zero, List.set_cons_succ, i64_w, i32_w]
                                    rfl
                                  refine pure_ (i := 2) (N := some 83) (v := ?_) (a' := ?_) #[true, true, true, false, false, false, false, false, false, false, false, false, false, false, false, false, false] rfl rfl (any_of HT_.out (by kernel_rfl)) (fun _ _ _ h => h) (Or.inl ⟨by rfl, ?_⟩) ?_ ?_
                                  rotate_left
                                  · intro w'
                                    go_simp
                                    with_reducible rfl
                                  rotate_left
                                  · simp only [Act.put, List.setIfInBounds_toArray, List.set_cons_zero, List.set_cons_succ, i64_w, i32_w]
                                    rfl
                                  refine pure_ (i := 4) (N := some 85) (v := ?_) (a' := ?_) #[true, true, true, false, true, false, false, false, false, false, false, false, false, false, false, false, false] rfl rfl (any_of HT_.out (by kernel_rfl)) (fun _ _ _ h => h) (Or.inl ⟨by rfl, ?_⟩) ?_ ?_
                                  rotate_left
                                  · intro w'
                                    go_simp
                                    with_reducible rfl
                                  rotate_left
                                  · simp only [Act.put, List.setIfInBounds_toArray, List.set_cons_zero, List.set_cons_succ, i64_w, i32_w]
                                    rfl
                                  refine pure_ (i := 5) (N := some 86) (v := ?_) (a' := ?_) #[true, true, true, false, true, true, false, false, false, false, false, false, false, false, false, false, false] rfl rfl (any_of HT_.out (by kernel_rfl)) (fun _ _ _ h => h) (Or.inl ⟨by rfl, ?_⟩) ?_ ?_
                                  rotate_left
                                  · intro w'
                                    go_simp
                                    with_reducible rfl
                                  rotate_left
                                  · simp only [Act.put, List.setIfInBounds_toArray, List.set_cons_zero, List.set_cons_succ, i64_w, i32_w]
                                    rfl
                                  refine pure_ (i := 6) (N := some 87) (v := ?_) (a' := ?_) #[true, true, true, false, true, true, true, false, false, false, false, false, false, false, false, false, false] rfl rfl (any_of HT_.out (by kernel_rfl)) (fun _ _ _ h => h) (Or.inl ⟨by rfl, ?_⟩) ?_ ?_
                                  rotate_left
                                  · intro w'
                                    go_simp
                                    with_reducible rfl
                                  rotate_left
                                  · simp only [Act.put, List.setIfInBounds_toArray, List.set_cons_zero, List.set_cons_succ, i64_w, i32_w]
                                    rfl
                                  refine pure_ (i := 8) (N := some 89) (v := ?_) (a' := ?_) #[true, true, true, false, true, true, true, false, true, false, false, false, false, false, false, false, false] rfl rfl (any_of HT_.out (by kernel_rfl)) (fun _ _ _ h => h) (Or.inl ⟨by rfl, ?_⟩) ?_ ?_
                                  rotate_left
                                  · intro w'
                                    go_simp
                                    with_reducible rfl
                                  rotate_left
                                  · simp only [Act.put, List.setIfInBounds_toArray, List.set_cons_zero, List.set_cons_succ, i64_w, i32_w]
                                    rfl
                                  refine pure_ (i := 10) (N := some 91) (v := ?_) (a' := ?_) #[true, true, true, false, true, true, true, false, true, false, true, false, false, false, false, false, false] rfl rfl (any_of HT_.out (by kernel_rfl)) (fun _ _ _ h => h) (Or.inl ⟨by rfl, ?_⟩) ?_ ?_
                                  rotate_left
                                  · intro w'
                                    go_simp
                                    with_reducible rfl
                                  rotate_left
                                  · simp only [Act.put, List.setIfInBounds_toArray, List.set_cons_zero, List.set_cons_succ, i64_w, i32_w]
                                    rfl
                                  refine take_ (i := 3) (N := some 84) (v := ?_) (a' := ?_) #[true, true, true, true, true, true, true, false, true, false, true, false, false, false, false, false, false] rfl rfl (take_ofW HT_.out HW_.out (by kernel_rfl)) (fun _ _ _ h => h) (Or.inl ⟨by rfl, ?_⟩) hHeld ?_ ?_
                                  rotate_left
                                  · rintro w' ⟨s0, s1, s2, s3, s4, s5, s6, s7⟩
                                    go_simp
                                    with_reducible rfl
                                  rotate_left
                                  · simp only [Act.put, List.setIfInBounds_toArray, List.set_cons_zero, List.set_cons_succ, i64_w, i32_w]
                                    rfl
                                  refine take_ (i := 7) (N := some 88) (v := ?_) (a' := ?_) #[true, true, true, true, true, true, true, true, true, false, true, false, false, false, false, false, false] rfl rfl (take_ofW HT_.out HW_.out (by kernel_rfl)) (fun _ _ _ h => h) (Or.inl ⟨by rfl, ?_⟩) hHeld ?_ ?_
                                  rotate_left
                                  · rintro w' ⟨s0, s1, s2, s3, s4, s5, s6, s7⟩
                                    go_simp
                                    with_reducible rfl
                                  rotate_left
                                  · simp only [Act.put, List.setIfInBounds_toArray, List.set_cons_zero, List.set_cons_succ, i64_w, i32_w]
                                    rfl
                                  refine take_ (i := 9) (N := some 90) (v := ?_) (a' := ?_) #[true, true, true, true, true, true, true, true, true, true, true, false, false, false, false, false, false] rfl rfl (take_ofW HT_.out HW_.out (by kernel_rfl)) (fun _ _ _ h => h) (Or.inl ⟨by rfl, ?_⟩) hHeld ?_ ?_
                                  rotate_left
                                  · rintro w' ⟨s0, s1, s2, s3, s4, s5, s6, s7⟩
                                    go_simp
                                    with_reducible rfl
                                  rotate_left
                                  · simp only [Act.put, List.setIfInBounds_toArray, List.set_cons_zero, List.set_cons_succ, i64_w, i32_w]
                                    rfl
                                  refine take_ (i := 11) (N := some 92) (v := ?_) (a' := ?_) #[true, true, true, true, true, true, true, true, true, true, true, true, false, false, false, false, false] rfl rfl (take_ofW HT_.out HW_.out (by kernel_rfl)) (fun _ _ _ h => h) (Or.inl ⟨by rfl, ?_⟩) hHeld ?_ ?_
                                  rotate_left
                                  · rintro w' ⟨s0, s1, s2, s3, s4, s5, s6, s7⟩
                                    go_simp
                                    with_reducible rfl
                                  rotate_left
                                  · simp only [Act.put, List.setIfInBounds_toArray, List.set_cons_zero, List.set_cons_succ, i64_w, i32_w]
                                    rfl
                                  refine one_ (i := 12) (N := some 93) #[true, true, true, true, true, true, true, true, true, true, true, true, true, false, false, false, false] rfl rfl (one_of HT_.out (by kernel_rfl)) (by decide) (fun K hK => ?_)
                                  refine goes_ Try.func20 (by kernel_rfl) rfl #[.int .i64 ((rd_T45 y146 0).f0), .int .i64 ((rd_T45 y146 1).f0), .int .i64 x152000_42, .int .i64 x153000_4] (by rfl) rfl rfl (by (try simp only [List.map_toArray, List.map_cons, List.map_nil]); first | done | rfl | (simp only [List.length_drop, List.length_take]; rfl)) ?_
                                  with_reducible refine (clock_Make.calls k4 ((rd_T45 y146 0).f0) ((rd_T45 y146 1).f0) x152000_42 x153000_4 t156 t157 _ A80.out).mono ?_
                                  rintro e w' ⟨rfl, ⟨nd, rfl⟩⟩
                                  refine ⟨_, rfl, ?_⟩
                                  refine hK.out _ _ ⟨(blk_cell BK151.out 0).trans rfl, (blk_cell BK151.out 1).trans rfl, (blk_cell BK152.out 0).trans rfl, (blk_cell BK152.out 1).trans rfl, hHeld.2.2.2.2.1, hHeld.2.2.2.2.2.1, hHeld.2.2.2.2.2.2.1, hHeld.2.2.2.2.2.2.2⟩ (fun hHeld => ?_)
                                  clear hK K
                                  refine norm_ (a' := ?_) ?_ ?_
                                  rotate_left
                                  · show Act.put _ (some 93) _ = _
                                    simp only [Act.put, List.setIfInBounds_toArray, List.set_cons_zero, List.set_cons_succ, i64_w, i32_w]
                                    rfl
                                  refine pure_ (i := 13) (N := some 94) (v := ?_) (a' := ?_) #[true, true, true, true, true, true, true, true, true, true, true, true, true, true, false, false, false] rfl rfl (any_of HT_.out (by kernel_rfl)) (fun _ _ _ h => h) (Or.inl ⟨by rfl, ?_⟩) ?_ ?_
                                  rotate_left
                                  · intro w'
                                    go_simp
                                    with_reducible rfl
                                  rotate_left
                                  · simp only [Act.put, List.setIfInBounds_toArray, List.set_cons_zero, List.set_cons_succ, i64_w, i32_w]
                                    rfl
                                  refine pure_ (i := 14) (N := some 95) (v := ?_) (a' := ?_) #[true, true, true, true, true, true, true, true, true, true, true, true, true, true, true, false, false] rfl rfl (any_of HT_.out (by kernel_rfl)) (fun _ _ _ h => h) (Or.inl ⟨by rfl, ?_⟩) ?_ ?_
                                  rotate_left
                                  · intro w'
                                    go_simp
                                    with_reducible rfl
                                  rotate_left
                                  · simp only [Act.put, List.setIfInBounds_toArray, List.set_cons_zero, List.set_cons_succ, i64_w, i32_w]
                                    rfl
                                  refine pure_ (i := 15) (N := some 2) (v := ?_) (a' := ?_) #[true, true, true, true, true, true, true, true, true, true, true, true, true, true, true, true, false] rfl rfl (any_of HT_.out (by kernel_rfl)) (fun _ _ _ h => h) (Or.inl ⟨by rfl, ?_⟩) ?_ ?_
                                  rotate_left
                                  · intro w'
                                    go_simp
                                    with_reducible rfl
                                  rotate_left
                                  · simp only [Act.put, List.setIfInBounds_toArray, List.set_cons_zero, List.set_cons_succ, i64_w, i32_w]
                                    rfl
                                  refine pure_ (i := 16) (N := some 3) (v := ?_) (a' := ?_) #[true, true, true, true, true, true, true, true, true, true, true, true, true, true, true, true, true] rfl rfl (any_of HT_.out (by kernel_rfl)) (fun _ _ _ h => h) (Or.inl ⟨by rfl, ?_⟩) ?_ ?_
                                  rotate_left
                                  · intro w'
                                    go_simp
                                    with_reducible rfl
                                  rotate_left
                                  · simp only [Act.put, List.setIfInBounds_toArray, List.set_cons_zero, List.set_cons_succ, i64_w, i32_w]
                                    rfl
                                  refine done_ (done_of HT_.out (by kernel_rfl)) ?_
                                  try go_wp2
                                  go_ret2
                                  exact ⟨by first | rfl | (simp [errW_none, errW_some] <;> rfl) | (simp [*, errW_none, errW_some] <;> rfl), by repeat (first | (with_reducible first | exact HB.out | apply below_alloc | apply pw_below_drewN | apply below_drew1 | refine below_set ?_ GE151.out | refine below_set ?_ GE152.out) | exact HB.out)⟩
                                · rw [if_neg c79] at H
                                  exact absurd H (by simp)
                              · rw [if_neg c78] at H
                                exact absurd H (by simp)
            · rw [if_neg c42] at H
              exact absurd H (by simp)
          · rw [if_neg c41] at H
            exact absurd H (by simp)
        · rw [if_neg c40] at H
          exact absurd H (by simp)

end Go.Proofs.Ytecijnjnhdjokaa.PClockF
