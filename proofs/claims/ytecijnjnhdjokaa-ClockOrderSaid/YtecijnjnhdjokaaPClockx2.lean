-- Written by a program of this session (mkprint.py, over the kit's print), out of the translation and of the contracts that the session gives.
import Derived.Test.YtecijnjnhdjokaaPClockx0
import Derived.Test.YtecijnjnhdjokaaPClockx1
namespace Go.Proofs.Ytecijnjnhdjokaa.PClock
open Go.RowKit Go.Proofs.YtecijnjnhdjokaaW.PrintWords Go.Proofs.YtecijnjnhdjokaaW.PrintLast Go.Proofs.YtecijnjnhdjokaaW.PrintMore
attribute [local go_sem] max2_int min2_int max_two min_two max_three min_three max_four min_four   -- for this text's walks alone
set_option linter.unusedVariables false
set_option linter.unusedSimpArgs false

/-! ### computusref03_Two: function 12 -/
mutual
def computusref03_Two.j0 : Nat → Int → Bool → Option (ByteArray)
  | 0, _, _ => none
  | k + 1, x0, x8 => if x8 = true then ((computusref03_Digits.f k x0).bind fun t131 => (if 1 + t131.size ≤ 9223372036854775807 then (some ((⟨#[48]⟩ : ByteArray) ++ t131)) else (none))) else (if x0 < 0 then (computusref03_Two.j1 k x0 (decide (x0 > (-10)))) else (computusref03_Two.j1 k x0 false))
def computusref03_Two.j1 : Nat → Int → Bool → Option (ByteArray)
  | 0, _, _ => none
  | k + 1, x0, x17 => if x17 = true then ((computusref03_Digits.f k (wrap64 (-x0))).bind fun t132 => (if 2 + t132.size ≤ 9223372036854775807 then (some ((⟨#[45, 48]⟩ : ByteArray) ++ t132)) else (none))) else ((computusref03_Digits.f k x0).bind fun t133 => (some t133))
end
def computusref03_Two.f (k : Nat) (a0 : Int) : Option (ByteArray) := if a0 ≥ 0 then (computusref03_Two.j0 k a0 (decide (a0 < 10))) else (computusref03_Two.j0 k a0 false)
theorem computusref03_Two.mono_l : ∀ k, (∀ y0 y1, LeO (computusref03_Two.j0 k y0 y1) (computusref03_Two.j0 (k + 1) y0 y1)) ∧ (∀ y0 y1, LeO (computusref03_Two.j1 k y0 y1) (computusref03_Two.j1 (k + 1) y0 y1))
  | 0 => ⟨fun _ _ r h => by simp [computusref03_Two.j0] at h, fun _ _ r h => by simp [computusref03_Two.j1] at h⟩
  | k + 1 => by
    obtain ⟨ih0, ih1⟩ := computusref03_Two.mono_l k
    refine ⟨?_, ?_⟩
    · intro y0 y1
      unfold computusref03_Two.j0
      repeat' first
      | (with_reducible exact ih0 _ _)
      | (with_reducible exact ih1 _ _)
      | (with_reducible exact computusref03_Digits.mono _ _)
      | (with_reducible exact LeO.refl _)
      | (with_reducible exact LeO.none _)
      | (with_reducible refine LeO.ite ?_ ?_)
      | (with_reducible refine LeO.bind ?_ (fun _ => ?_))
      | exact ih0 _ _
      | exact ih1 _ _
      | exact computusref03_Digits.mono _ _
      | exact LeO.none _
      | refine LeO.ite ?_ ?_
      | refine LeO.bind ?_ (fun _ => ?_)
    · intro y0 y1
      unfold computusref03_Two.j1
      repeat' first
      | (with_reducible exact ih0 _ _)
      | (with_reducible exact ih1 _ _)
      | (with_reducible exact computusref03_Digits.mono _ _)
      | (with_reducible exact LeO.refl _)
      | (with_reducible exact LeO.none _)
      | (with_reducible refine LeO.ite ?_ ?_)
      | (with_reducible refine LeO.bind ?_ (fun _ => ?_))
      | exact ih0 _ _
      | exact ih1 _ _
      | exact computusref03_Digits.mono _ _
      | exact LeO.none _
      | refine LeO.ite ?_ ?_
      | refine LeO.bind ?_ (fun _ => ?_)
theorem computusref03_Two.mono : ∀ a0 k, LeO (computusref03_Two.f k a0) (computusref03_Two.f (k + 1) a0) := by
  intro a0 k
  obtain ⟨ih0, ih1⟩ := computusref03_Two.mono_l k
  unfold computusref03_Two.f
  repeat' first
      | (with_reducible exact ih0 _ _)
      | (with_reducible exact ih1 _ _)
      | (with_reducible exact computusref03_Digits.mono _ _)
      | (with_reducible exact LeO.refl _)
      | (with_reducible exact LeO.none _)
      | (with_reducible refine LeO.ite ?_ ?_)
      | (with_reducible refine LeO.bind ?_ (fun _ => ?_))
      | exact ih0 _ _
      | exact ih1 _ _
      | exact computusref03_Digits.mono _ _
      | exact LeO.none _
      | refine LeO.ite ?_ ?_
      | refine LeO.bind ?_ (fun _ => ?_)
set_option maxHeartbeats 8000000 in
set_option maxRecDepth 100000 in
theorem computusref03_Two.calls (k : Nat) (a0 : Int) (r : ByteArray) (w : World) (h : computusref03_Two.f k a0 = some r) :
    Calls Try.prog 12 #[.int .i64 a0] w fun e w' => e = .returned (.string r) ∧ Below w.heap.size w w' := by
  have HB := Aside0.mk (Below.refl w.heap.size w)
  have H : (if a0 ≥ 0 then (computusref03_Two.j0 k a0 (decide (a0 < 10))) else (computusref03_Two.j0 k a0 false)) = some r := h
  clear h
  have HC2 := Aside0.mk H
  clear H
  go_enter Try.func12, Try.ntmps12
  go_upto_region 1 with (fail)
  go_cut [8] (fun v8 wc => ∃ (kq : Nat) (x8_1 : Bool), v8 = .bool x8_1 ∧ Aside0 (computusref03_Two.j0 kq a0 x8_1 = some r) ∧ Aside0 (kq ≤ k) ∧ Aside0 (Below w.heap.size w wc))
  case first =>
    have H := HC2.out
    clear HC2
    by_cases c3 : a0 ≥ 0
    · rw [if_pos c3] at H
      have c3b0 : decide (0 ≤ a0) = true := decide_eq_true c3
      clear c3
      (first | rw [c3b0] | (simp only [i64_w, i32_w]; rw [c3b0]) | skip)
      have H' := Aside0.mk H
      clear H
      go_wp2
      go_meet
      case rel => exact ⟨_, (decide (a0 < 10)), (by first | rfl | (simp; done) | (simp [*]; done)), H', ⟨by first | omega | exact Nat.le_refl _⟩, ⟨by repeat (first | (with_reducible first | exact HB.out | apply below_alloc | apply pw_below_drewN | apply below_drew1) | exact HB.out)⟩⟩
    · rw [if_neg c3] at H
      have c3b0 : decide (0 ≤ a0) = false := decide_eq_false c3
      clear c3
      (first | rw [c3b0] | (simp only [i64_w, i32_w]; rw [c3b0]) | skip)
      have H' := Aside0.mk H
      clear H
      go_wp2
      go_meet
      case rel => exact ⟨_, (false), (by first | rfl | (simp; done) | (simp [*]; done)), H', ⟨by first | omega | exact Nat.le_refl _⟩, ⟨by repeat (first | (with_reducible first | exact HB.out | apply below_alloc | apply pw_below_drewN | apply below_drew1) | exact HB.out)⟩⟩
  case rest =>
    clear HC2
    try clear c1
    try clear p2
    try clear c3
    try clear c3b0
    obtain ⟨kq, x8_1, rfl, HA, HJ1, HB⟩ := hcut
    cases kq with
    | zero => exact absurd HA.out (by simp [computusref03_Two.j0])
    | succ kj1 =>
      have H := HA.out
      clear HA
      simp only [computusref03_Two.j0] at H
      by_cases c4 : x8_1 = true
      · subst c4
        have H1 : ((computusref03_Digits.f kj1 a0).bind fun t131 => (if 1 + t131.size ≤ 9223372036854775807 then (some ((⟨#[48]⟩ : ByteArray) ++ t131)) else (none))) = some r := by rw [if_pos rfl] at H; exact H
        clear H
        have H := H1
        clear H1
        replace H := Option.bind_eq_some_iff.mp H
        obtain ⟨t131, A50, H⟩ := H
        replace H : (if 1 + t131.size ≤ 9223372036854775807 then (some ((⟨#[48]⟩ : ByteArray) ++ t131)) else (none)) = some r := H
        have A5 := Aside0.mk A50
        clear A50
        by_cases c6 : 1 + t131.size ≤ 9223372036854775807
        · rw [if_pos c6] at H
          have c6b0 := eq_true c6
          have c6b1 : decide (1 + t131.size ≤ 9223372036854775807) = true := decide_eq_true c6
          try have c6b2 : (9223372036854775807 < 1 + t131.size) = False := eq_false (Nat.not_lt.2 c6)
          obtain rfl := Option.some.inj H
          go_wp2_with (first | ((with_reducible refine gate_callee (f := 32) rfl ?_); refine goesL_ (some 10) rfl rfl Try.func32 (by kernel_rfl) rfl #[.int .i64 a0] rfl (by (try simp only [List.map_toArray, List.map_cons, List.map_nil]); first | done | rfl | (simp only [List.length_drop, List.length_take]; rfl)) ?_; (with_reducible refine (computusref03_Digits.calls kj1 a0 t131 _ A5.out).mono ?_); rintro e w7 ⟨rfl, hb⟩; refine ⟨_, rfl, ?_⟩; have n0_ := Aside0.mk (below_step (by repeat (first | (with_reducible first | exact HB.out | apply below_alloc | apply pw_below_drewN | apply below_drew1) | exact HB.out)) hb); clear HB; have HB := n0_; clear n0_; (try clear hb); (try clear hb2); (try clear hk); (try clear hi)))
          go_ret
          exact ⟨by first | rfl | (simp [errW_none, errW_some] <;> rfl) | (simp [*, errW_none, errW_some] <;> rfl), by repeat (first | (with_reducible first | exact HB.out | apply below_alloc | apply pw_below_drewN | apply below_drew1) | exact HB.out)⟩
        · rw [if_neg c6] at H
          exact absurd H (by simp)
      · replace c4 := Bool.eq_false_iff.mpr c4
        subst c4
        have H1 : (if a0 < 0 then (computusref03_Two.j1 kj1 a0 (decide (a0 > (-10)))) else (computusref03_Two.j1 kj1 a0 false)) = some r := by rw [if_neg (show ¬ (false = true) by decide)] at H; exact H
        clear H
        have H := H1
        clear H1
        have HC8 := Aside0.mk H
        clear H
        go_upto_region 3 with (fail)
        go_cut [17] (fun v17 wc => ∃ (kq : Nat) (x17_7 : Bool), v17 = .bool x17_7 ∧ Aside0 (computusref03_Two.j1 kq a0 x17_7 = some r) ∧ Aside0 (kq ≤ kj1) ∧ Aside0 (Below w.heap.size w wc))
        case first =>
          have H := HC8.out
          clear HC8
          by_cases c9 : a0 < 0
          · rw [if_pos c9] at H
            have c9b0 : decide (a0 < 0) = true := decide_eq_true c9
            clear c9
            (first | rw [c9b0] | (simp only [i64_w, i32_w]; rw [c9b0]) | skip)
            have H' := Aside0.mk H
            clear H
            go_wp2
            go_meet
            case rel => exact ⟨_, (decide (a0 > (-10))), (by first | rfl | (simp; done) | (simp [*]; done)), H', ⟨by have := HJ1.out; first | omega | exact Nat.le_refl _⟩, ⟨by repeat (first | (with_reducible first | exact HB.out | apply below_alloc | apply pw_below_drewN | apply below_drew1) | exact HB.out)⟩⟩
          · rw [if_neg c9] at H
            have c9b0 : decide (a0 < 0) = false := decide_eq_false c9
            clear c9
            (first | rw [c9b0] | (simp only [i64_w, i32_w]; rw [c9b0]) | skip)
            have H' := Aside0.mk H
            clear H
            go_wp2
            go_meet
            case rel => exact ⟨_, (false), (by first | rfl | (simp; done) | (simp [*]; done)), H', ⟨by have := HJ1.out; first | omega | exact Nat.le_refl _⟩, ⟨by repeat (first | (with_reducible first | exact HB.out | apply below_alloc | apply pw_below_drewN | apply below_drew1) | exact HB.out)⟩⟩
        case rest =>
          clear HC8
          try clear c1
          try clear p2
          try clear c3
          try clear c3b0
          try clear c4
          try clear c6
          try clear c6b0
          try clear c6b1
          try clear c6b2
          try clear c9
          try clear c9b0
          try clear p2
          obtain ⟨kq, x17_7, rfl, HA, HJ7, HB⟩ := hcut
          cases kq with
          | zero => exact absurd HA.out (by simp [computusref03_Two.j1])
          | succ kj7 =>
            have H := HA.out
            clear HA
            simp only [computusref03_Two.j1] at H
            by_cases c10 : x17_7 = true
            · subst c10
              have H1 : ((computusref03_Digits.f kj7 (wrap64 (-a0))).bind fun t132 => (if 2 + t132.size ≤ 9223372036854775807 then (some ((⟨#[45, 48]⟩ : ByteArray) ++ t132)) else (none))) = some r := by rw [if_pos rfl] at H; exact H
              clear H
              have H := H1
              clear H1
              replace H := Option.bind_eq_some_iff.mp H
              obtain ⟨t132, A110, H⟩ := H
              replace H : (if 2 + t132.size ≤ 9223372036854775807 then (some ((⟨#[45, 48]⟩ : ByteArray) ++ t132)) else (none)) = some r := H
              have A11 := Aside0.mk A110
              clear A110
              by_cases c12 : 2 + t132.size ≤ 9223372036854775807
              · rw [if_pos c12] at H
                have c12b0 := eq_true c12
                have c12b1 : decide (2 + t132.size ≤ 9223372036854775807) = true := decide_eq_true c12
                try have c12b2 : (9223372036854775807 < 2 + t132.size) = False := eq_false (Nat.not_lt.2 c12)
                obtain rfl := Option.some.inj H
                go_wp2_with (first | ((with_reducible refine gate_callee (f := 32) rfl ?_); refine goesL_ (some 20) rfl rfl Try.func32 (by kernel_rfl) rfl #[.int .i64 (wrap64 (-a0))] rfl (by (try simp only [List.map_toArray, List.map_cons, List.map_nil]); first | done | rfl | (simp only [List.length_drop, List.length_take]; rfl)) ?_; (with_reducible refine (computusref03_Digits.calls kj7 (wrap64 (-a0)) t132 _ A11.out).mono ?_); rintro e w13 ⟨rfl, hb⟩; refine ⟨_, rfl, ?_⟩; have n0_ := Aside0.mk (below_step (by repeat (first | (with_reducible first | exact HB.out | apply below_alloc | apply pw_below_drewN | apply below_drew1) | exact HB.out)) hb); clear HB; have HB := n0_; clear n0_; (try clear hb); (try clear hb2); (try clear hk); (try clear hi)))
                go_ret
                exact ⟨by first | rfl | (simp [errW_none, errW_some] <;> rfl) | (simp [*, errW_none, errW_some] <;> rfl), by repeat (first | (with_reducible first | exact HB.out | apply below_alloc | apply pw_below_drewN | apply below_drew1) | exact HB.out)⟩
              · rw [if_neg c12] at H
                exact absurd H (by simp)
            · replace c10 := Bool.eq_false_iff.mpr c10
              subst c10
              have H1 : ((computusref03_Digits.f kj7 a0).bind fun t133 => (some t133)) = some r := by rw [if_neg (show ¬ (false = true) by decide)] at H; exact H
              clear H
              have H := H1
              clear H1
              replace H := Option.bind_eq_some_iff.mp H
              obtain ⟨t133, A140, H⟩ := H
              replace H : (some t133) = some r := H
              have A14 := Aside0.mk A140
              clear A140
              obtain rfl := Option.some.inj H
              go_wp2_with (first | ((with_reducible refine gate_callee (f := 32) rfl ?_); refine goesL_ (some 23) rfl rfl Try.func32 (by kernel_rfl) rfl #[.int .i64 a0] rfl (by (try simp only [List.map_toArray, List.map_cons, List.map_nil]); first | done | rfl | (simp only [List.length_drop, List.length_take]; rfl)) ?_; (with_reducible refine (computusref03_Digits.calls kj7 a0 t133 _ A14.out).mono ?_); rintro e w15 ⟨rfl, hb⟩; refine ⟨_, rfl, ?_⟩; have n0_ := Aside0.mk (below_step (by repeat (first | (with_reducible first | exact HB.out | apply below_alloc | apply pw_below_drewN | apply below_drew1) | exact HB.out)) hb); clear HB; have HB := n0_; clear n0_; (try clear hb); (try clear hb2); (try clear hk); (try clear hi)))
              go_ret
              exact ⟨by first | rfl | (simp [errW_none, errW_some] <;> rfl) | (simp [*, errW_none, errW_some] <;> rfl), by repeat (first | (with_reducible first | exact HB.out | apply below_alloc | apply pw_below_drewN | apply below_drew1) | exact HB.out)⟩

/-! ### computusref03_Fraction: function 14 -/
mutual
def computusref03_Fraction.j0 : Nat → Int → Bool → Option (ByteArray)
  | 0, _, _ => none
  | k + 1, x0, x9 => if x9 = true then (some (⟨#[]⟩ : ByteArray)) else ((computusref03_Digits.f k (wrap64 (1000000 + x0))).bind fun t134 => (if 1 ≤ (t134.size : Int) then (computusref03_Fraction.l0 k (t134.extract 1 t134.size)) else (none)))
def computusref03_Fraction.l0 : Nat → ByteArray → Option (ByteArray)
  | 0, _ => none
  | k + 1, x3 => if 0 ≤ (wrap64 ((x3.size : Int) - 1)) then (if (wrap64 ((x3.size : Int) - 1)) < (x3.size : Int) then (if (bt x3 (wrap64 ((x3.size : Int) - 1))) = 48 then (if (wrap64 ((x3.size : Int) - 1)) ≤ (x3.size : Int) then (computusref03_Fraction.l0 k (x3.extract 0 ((wrap64 ((x3.size : Int) - 1)) : Int).toNat)) else (none)) else (if 1 + x3.size ≤ 9223372036854775807 then (some ((⟨#[46]⟩ : ByteArray) ++ x3)) else (none))) else (none)) else (none)
end
def computusref03_Fraction.f (k : Nat) (a0 : Int) : Option (ByteArray) := if a0 < 1 then (computusref03_Fraction.j0 k a0 true) else (computusref03_Fraction.j0 k a0 (decide (a0 > 999999)))
theorem computusref03_Fraction.mono_l : ∀ k, (∀ y0 y1, LeO (computusref03_Fraction.j0 k y0 y1) (computusref03_Fraction.j0 (k + 1) y0 y1)) ∧ (∀ y0, LeO (computusref03_Fraction.l0 k y0) (computusref03_Fraction.l0 (k + 1) y0))
  | 0 => ⟨fun _ _ r h => by simp [computusref03_Fraction.j0] at h, fun _ r h => by simp [computusref03_Fraction.l0] at h⟩
  | k + 1 => by
    obtain ⟨ih0, ih1⟩ := computusref03_Fraction.mono_l k
    refine ⟨?_, ?_⟩
    · intro y0 y1
      unfold computusref03_Fraction.j0
      repeat' first
      | (with_reducible exact ih0 _ _)
      | (with_reducible exact ih1 _)
      | (with_reducible exact computusref03_Digits.mono _ _)
      | (with_reducible exact LeO.refl _)
      | (with_reducible exact LeO.none _)
      | (with_reducible refine LeO.ite ?_ ?_)
      | (with_reducible refine LeO.bind ?_ (fun _ => ?_))
      | exact ih0 _ _
      | exact ih1 _
      | exact computusref03_Digits.mono _ _
      | exact LeO.none _
      | refine LeO.ite ?_ ?_
      | refine LeO.bind ?_ (fun _ => ?_)
    · intro y0
      unfold computusref03_Fraction.l0
      repeat' first
      | (with_reducible exact ih0 _ _)
      | (with_reducible exact ih1 _)
      | (with_reducible exact computusref03_Digits.mono _ _)
      | (with_reducible exact LeO.refl _)
      | (with_reducible exact LeO.none _)
      | (with_reducible refine LeO.ite ?_ ?_)
      | (with_reducible refine LeO.bind ?_ (fun _ => ?_))
      | exact ih0 _ _
      | exact ih1 _
      | exact computusref03_Digits.mono _ _
      | exact LeO.none _
      | refine LeO.ite ?_ ?_
      | refine LeO.bind ?_ (fun _ => ?_)
theorem computusref03_Fraction.mono : ∀ a0 k, LeO (computusref03_Fraction.f k a0) (computusref03_Fraction.f (k + 1) a0) := by
  intro a0 k
  obtain ⟨ih0, ih1⟩ := computusref03_Fraction.mono_l k
  unfold computusref03_Fraction.f
  repeat' first
      | (with_reducible exact ih0 _ _)
      | (with_reducible exact ih1 _)
      | (with_reducible exact computusref03_Digits.mono _ _)
      | (with_reducible exact LeO.refl _)
      | (with_reducible exact LeO.none _)
      | (with_reducible refine LeO.ite ?_ ?_)
      | (with_reducible refine LeO.bind ?_ (fun _ => ?_))
      | exact ih0 _ _
      | exact ih1 _
      | exact computusref03_Digits.mono _ _
      | exact LeO.none _
      | refine LeO.ite ?_ ?_
      | refine LeO.bind ?_ (fun _ => ?_)
set_option maxHeartbeats 8000000 in
set_option maxRecDepth 100000 in
theorem computusref03_Fraction.calls (k : Nat) (a0 : Int) (r : ByteArray) (w : World) (h : computusref03_Fraction.f k a0 = some r) :
    Calls Try.prog 14 #[.int .i64 a0] w fun e w' => e = .returned (.string r) ∧ Below w.heap.size w w' := by
  have HB := Aside0.mk (Below.refl w.heap.size w)
  have H : (if a0 < 1 then (computusref03_Fraction.j0 k a0 true) else (computusref03_Fraction.j0 k a0 (decide (a0 > 999999)))) = some r := h
  clear h
  have HC2 := Aside0.mk H
  clear H
  go_enter Try.func14, Try.ntmps14
  go_upto_region 1 with (fail)
  go_cut [9] (fun v9 wc => ∃ (kq : Nat) (x9_1 : Bool), v9 = .bool x9_1 ∧ Aside0 (computusref03_Fraction.j0 kq a0 x9_1 = some r) ∧ Aside0 (kq ≤ k) ∧ Aside0 (Below w.heap.size w wc))
  case first =>
    have H := HC2.out
    clear HC2
    by_cases c3 : a0 < 1
    · rw [if_pos c3] at H
      have c3b0 : decide (a0 < 1) = true := decide_eq_true c3
      clear c3
      (first | rw [c3b0] | (simp only [i64_w, i32_w]; rw [c3b0]) | skip)
      have H' := Aside0.mk H
      clear H
      go_wp2
      go_meet
      case rel => exact ⟨_, (true), (by first | rfl | (simp; done) | (simp [*]; done)), H', ⟨by first | omega | exact Nat.le_refl _⟩, ⟨by repeat (first | (with_reducible first | exact HB.out | apply below_alloc | apply pw_below_drewN | apply below_drew1) | exact HB.out)⟩⟩
    · rw [if_neg c3] at H
      have c3b0 : decide (a0 < 1) = false := decide_eq_false c3
      clear c3
      (first | rw [c3b0] | (simp only [i64_w, i32_w]; rw [c3b0]) | skip)
      have H' := Aside0.mk H
      clear H
      go_wp2
      go_meet
      case rel => exact ⟨_, (decide (a0 > 999999)), (by first | rfl | (simp; done) | (simp [*]; done)), H', ⟨by first | omega | exact Nat.le_refl _⟩, ⟨by repeat (first | (with_reducible first | exact HB.out | apply below_alloc | apply pw_below_drewN | apply below_drew1) | exact HB.out)⟩⟩
  case rest =>
    clear HC2
    try clear c1
    try clear p2
    try clear c3
    try clear c3b0
    obtain ⟨kq, x9_1, rfl, HA, HJ1, HB⟩ := hcut
    cases kq with
    | zero => exact absurd HA.out (by simp [computusref03_Fraction.j0])
    | succ kj1 =>
      have H := HA.out
      clear HA
      simp only [computusref03_Fraction.j0] at H
      by_cases c4 : x9_1 = true
      · subst c4
        have H1 : (some (⟨#[]⟩ : ByteArray)) = some r := by rw [if_pos rfl] at H; exact H
        clear H
        have H := H1
        clear H1
        obtain rfl := Option.some.inj H
        go_wp2
        go_ret
        exact ⟨by first | rfl | (simp [errW_none, errW_some] <;> rfl) | (simp [*, errW_none, errW_some] <;> rfl), by repeat (first | (with_reducible first | exact HB.out | apply below_alloc | apply pw_below_drewN | apply below_drew1) | exact HB.out)⟩
      · replace c4 := Bool.eq_false_iff.mpr c4
        subst c4
        have H1 : ((computusref03_Digits.f kj1 (wrap64 (1000000 + a0))).bind fun t134 => (if 1 ≤ (t134.size : Int) then (computusref03_Fraction.l0 kj1 (t134.extract 1 t134.size)) else (none))) = some r := by rw [if_neg (show ¬ (false = true) by decide)] at H; exact H
        clear H
        have H := H1
        clear H1
        replace H := Option.bind_eq_some_iff.mp H
        obtain ⟨t134, A50, H⟩ := H
        replace H : (if 1 ≤ (t134.size : Int) then (computusref03_Fraction.l0 kj1 (t134.extract 1 t134.size)) else (none)) = some r := H
        have A5 := Aside0.mk A50
        clear A50
        by_cases c6 : 1 ≤ (t134.size : Int)
        · rw [if_pos c6] at H
          have c6b0 := eq_true c6
          have c6b1 : decide (1 ≤ (t134.size : Int)) = true := decide_eq_true c6
          clear c6
          have H' := Aside0.mk H
          clear H
          go_wp2_with (first | ((with_reducible refine gate_callee (f := 32) rfl ?_); refine goesL_ (some 12) rfl rfl Try.func32 (by kernel_rfl) rfl #[.int .i64 (wrap64 (1000000 + a0))] rfl (by (try simp only [List.map_toArray, List.map_cons, List.map_nil]); first | done | rfl | (simp only [List.length_drop, List.length_take]; rfl)) ?_; (with_reducible refine (computusref03_Digits.calls kj1 (wrap64 (1000000 + a0)) t134 _ A5.out).mono ?_); rintro e w7 ⟨rfl, hb⟩; refine ⟨_, rfl, ?_⟩; have n0_ := Aside0.mk (below_step (by repeat (first | (with_reducible first | exact HB.out | apply below_alloc | apply pw_below_drewN | apply below_drew1) | exact HB.out)) hb); clear HB; have HB := n0_; clear n0_; (try clear hb); (try clear hb2); (try clear hk); (try clear hi)))
          go_loopg [3] kj1 (fun kq v3 w' => ∃ (x3_2 : ByteArray), v3 = .string x3_2 ∧ Aside0 (computusref03_Fraction.l0 kq x3_2 = some r) ∧ Aside0 (kq ≤ kj1) ∧ Aside0 (Below w.heap.size w w'))
          case atStart => exact ⟨(t134.extract 1 t134.size), (by first | rfl | (simp; done) | (simp [*]; done)), H', ⟨Nat.le_refl _⟩, ⟨by repeat (first | (with_reducible first | exact HB.out | apply below_alloc | apply pw_below_drewN | apply below_drew1) | exact HB.out)⟩⟩
          case round =>
            clear H'
            try clear c1
            try clear p2
            try clear c3
            try clear c3b0
            try clear c4
            try clear c6
            try clear c6b0
            try clear c6b1
            try clear p6
            try clear p2
            obtain ⟨x3_2, rfl, HA, HK2, HB⟩ := hrel
            cases gk with
            | zero => exact absurd HA.out (by simp [computusref03_Fraction.l0])
            | succ k2 =>
              have H := HA.out
              clear HA
              simp only [computusref03_Fraction.l0] at H
              obtain ⟨ji8, hji8⟩ : ∃ j_ : Int, (wrap64 ((x3_2.size : Int) - 1)) = j_ := ⟨_, rfl⟩
              replace H : (if 0 ≤ (ji8) then (if (ji8) < (x3_2.size : Int) then (if (bt x3_2 (ji8)) = 48 then (if (ji8) ≤ (x3_2.size : Int) then (computusref03_Fraction.l0 k2 (x3_2.extract 0 ((ji8) : Int).toNat)) else (none)) else (if 1 + x3_2.size ≤ 9223372036854775807 then (some ((⟨#[46]⟩ : ByteArray) ++ x3_2)) else (none))) else (none)) else (none)) = some r := by first | (rw [hji8] at H; exact H) | (simp only [hji8] at H ⊢; exact H)
              have hji8w : (IntKind.i64.wrap ((x3_2.size : Int) - 1)) = ji8 := (i64_w _).trans hji8
              by_cases c9 : 0 ≤ (ji8)
              · rw [if_pos c9] at H
                have c9b0 : decide (0 ≤ (ji8)) = true := decide_eq_true c9
                clear c9
                by_cases c10 : (ji8) < (x3_2.size : Int)
                · rw [if_pos c10] at H
                  have c10b0 : decide ((ji8) < (x3_2.size : Int)) = true := decide_eq_true c10
                  clear c10
                  by_cases c12 : (bt x3_2 (ji8)) = 48
                  · rw [if_pos c12] at H
                    have c12b0 : ((bt x3_2 (ji8)) == 48) = true := beq_iff_eq.mpr c12
                    have c12b1 : ((bt x3_2 (ji8)) != 48) = false := bne_eq_false_iff_eq.mpr c12
                    clear c12
                    have c13b0 := eq_true (of_decide_eq_true (by first | (with_reducible assumption) | assumption) : 0 ≤ (ji8))
                    by_cases c14 : (ji8) ≤ (x3_2.size : Int)
                    · rw [if_pos c14] at H
                      have c14b0 := eq_true c14
                      have c14b1 : decide ((ji8) ≤ (x3_2.size : Int)) = true := decide_eq_true c14
                      clear c14
                      have H' := Aside0.mk H
                      clear H
                      have p11 : 0 ≤ ((ji8) : Int) := of_decide_eq_true (by first | (with_reducible assumption) | assumption)
                      have q11 : (ji8) < (x3_2.size : Int) := of_decide_eq_true (by first | (with_reducible assumption) | assumption)
                      have hx11 := bt_at x3_2 (ji8)
                      replace p11 := eq_true p11
                      replace q11 := eq_true q11
                      go_wp2
                      go_roundg k2
                      case measure => have := HJ1.out; have := HK2.out; omega
                      case rel => exact ⟨(x3_2.extract 0 ((ji8) : Int).toNat), (by first | rfl | (simp; done) | (simp only [← hji8] <;> (first | rfl | simp)) | (simp [*]; done)), H', ⟨by have := HJ1.out; have := HK2.out; omega⟩, ⟨by repeat (first | (with_reducible first | exact HB.out | apply below_alloc | apply pw_below_drewN | apply below_drew1) | exact HB.out)⟩⟩
                    · rw [if_neg c14] at H
                      exact absurd H (by simp)
                  · rw [if_neg c12] at H
                    have c12b0 : ((bt x3_2 (ji8)) == 48) = false := beq_eq_false_iff_ne.mpr c12
                    have c12b1 : ((bt x3_2 (ji8)) != 48) = true := bne_iff_ne.mpr c12
                    by_cases c15 : 1 + x3_2.size ≤ 9223372036854775807
                    · rw [if_pos c15] at H
                      have c15b0 := eq_true c15
                      have c15b1 : decide (1 + x3_2.size ≤ 9223372036854775807) = true := decide_eq_true c15
                      try have c15b2 : (9223372036854775807 < 1 + x3_2.size) = False := eq_false (Nat.not_lt.2 c15)
                      obtain rfl := Option.some.inj H
                      have p11 : 0 ≤ ((ji8) : Int) := of_decide_eq_true (by first | (with_reducible assumption) | assumption)
                      have q11 : (ji8) < (x3_2.size : Int) := of_decide_eq_true (by first | (with_reducible assumption) | assumption)
                      have hx11 := bt_at x3_2 (ji8)
                      replace p11 := eq_true p11
                      replace q11 := eq_true q11
                      go_wp2
                      go_ret
                      exact ⟨by first | rfl | (simp [errW_none, errW_some] <;> rfl) | (simp only [← hji8]; first | rfl | (simp [errW_none, errW_some] <;> rfl)) | (simp [*, errW_none, errW_some] <;> rfl), by repeat (first | (with_reducible first | exact HB.out | apply below_alloc | apply pw_below_drewN | apply below_drew1) | exact HB.out)⟩
                    · rw [if_neg c15] at H
                      exact absurd H (by simp)
                · rw [if_neg c10] at H
                  exact absurd H (by simp)
              · rw [if_neg c9] at H
                exact absurd H (by simp)
        · rw [if_neg c6] at H
          exact absurd H (by simp)

/-! ### computusref03_Parts: function 23 -/
def computusref03_Parts.f (a0 : Int) : Option (Int × Int × Int × Int × Int) := if a0 < 0 then (some (0, 0, 0, 0, 10)) else (if a0 > 86400000000 then (some (0, 0, 0, 0, 10)) else (some (wrap64 (Int.tdiv (wrap64 (Int.tdiv a0 1000000)) 3600), Int.tmod (wrap64 (Int.tdiv (wrap64 (Int.tdiv a0 1000000)) 60)) 60, Int.tmod (wrap64 (Int.tdiv a0 1000000)) 60, Int.tmod a0 1000000, 0)))
set_option maxHeartbeats 8000000 in
set_option maxRecDepth 100000 in
theorem computusref03_Parts.calls (a0 : Int) (r1 : Int) (r2 : Int) (r3 : Int) (r4 : Int) (r5 : Int) (w : World) (h : computusref03_Parts.f a0 = some (r1, r2, r3, r4, r5)) :
    Calls Try.prog 23 #[.int .i64 a0] w fun e w' => e = .returned (.tuple #[.int .i64 r1, .int .i64 r2, .int .i64 r3, .int .i64 r4, .int .i64 r5]) ∧ Drawn0 w w' := by
  have H : (if a0 < 0 then (some (0, 0, 0, 0, 10)) else (if a0 > 86400000000 then (some (0, 0, 0, 0, 10)) else (some (wrap64 (Int.tdiv (wrap64 (Int.tdiv a0 1000000)) 3600), Int.tmod (wrap64 (Int.tdiv (wrap64 (Int.tdiv a0 1000000)) 60)) 60, Int.tmod (wrap64 (Int.tdiv a0 1000000)) 60, Int.tmod a0 1000000, 0)))) = some (r1, r2, r3, r4, r5) := h
  clear h
  by_cases c2 : a0 < 0
  · rw [if_pos c2] at H
    have c2b0 : decide (a0 < 0) = true := decide_eq_true c2
    clear c2
    simp only [Option.some.injEq, Prod.mk.injEq] at H
    obtain ⟨rfl, rfl, rfl, rfl, rfl⟩ := H
    go_enter Try.func23, Try.ntmps23
    go_wp2
    refine bodyPost_ret (results_list (rs := [.tmp 2, .tmp 3, .tmp 4, .tmp 5, .tmp 6]) rfl (by simp) (.tmp (.tmp (.tmp (.tmp (.tmp .nil)))))) rfl ?_
    exact ⟨by first | rfl | (simp; done) | (simp [*]; done), by repeat (first | exact Drawn0.refl _ | apply Drawn0.step)⟩
  · rw [if_neg c2] at H
    have c2b0 : decide (a0 < 0) = false := decide_eq_false c2
    clear c2
    by_cases c3 : a0 > 86400000000
    · rw [if_pos c3] at H
      have c3b0 : decide (86400000000 < a0) = true := decide_eq_true c3
      clear c3
      simp only [Option.some.injEq, Prod.mk.injEq] at H
      obtain ⟨rfl, rfl, rfl, rfl, rfl⟩ := H
      go_enter Try.func23, Try.ntmps23
      go_wp2
      refine bodyPost_ret (results_list (rs := [.tmp 2, .tmp 3, .tmp 4, .tmp 5, .tmp 6]) rfl (by simp) (.tmp (.tmp (.tmp (.tmp (.tmp .nil)))))) rfl ?_
      exact ⟨by first | rfl | (simp; done) | (simp [*]; done), by repeat (first | exact Drawn0.refl _ | apply Drawn0.step)⟩
    · rw [if_neg c3] at H
      have c3b0 : decide (86400000000 < a0) = false := decide_eq_false c3
      clear c3
      simp only [Option.some.injEq, Prod.mk.injEq] at H
      obtain ⟨rfl, rfl, rfl, rfl, rfl⟩ := H
      go_enter Try.func23, Try.ntmps23
      go_wp2
      refine bodyPost_ret (results_list (rs := [.tmp 2, .tmp 3, .tmp 4, .tmp 5, .tmp 6]) rfl (by simp) (.tmp (.tmp (.tmp (.tmp (.tmp .nil)))))) rfl ?_
      exact ⟨by first | rfl | (simp; done) | (simp [*]; done), by repeat (first | exact Drawn0.refl _ | apply Drawn0.step)⟩

/-! ### computusref03_Text: function 10 -/
def computusref03_Text.f (k : Nat) (a0 : Int) : Option (ByteArray × Int) := (computusref03_Parts.f a0).bind fun bt135 => (if bt135.2.2.2.2 = 0 then ((computusref03_Two.f k bt135.1).bind fun t140 => (if t140.size + 1 ≤ 9223372036854775807 then ((computusref03_Two.f k bt135.2.1).bind fun t141 => (if (t140 ++ (⟨#[58]⟩ : ByteArray)).size + t141.size ≤ 9223372036854775807 then (if ((t140 ++ (⟨#[58]⟩ : ByteArray)) ++ t141).size + 1 ≤ 9223372036854775807 then ((computusref03_Two.f k bt135.2.2.1).bind fun t142 => (if (((t140 ++ (⟨#[58]⟩ : ByteArray)) ++ t141) ++ (⟨#[58]⟩ : ByteArray)).size + t142.size ≤ 9223372036854775807 then ((computusref03_Fraction.f k bt135.2.2.2.1).bind fun t143 => (if ((((t140 ++ (⟨#[58]⟩ : ByteArray)) ++ t141) ++ (⟨#[58]⟩ : ByteArray)) ++ t142).size + t143.size ≤ 9223372036854775807 then (some (((((t140 ++ (⟨#[58]⟩ : ByteArray)) ++ t141) ++ (⟨#[58]⟩ : ByteArray)) ++ t142) ++ t143, 0)) else (none))) else (none))) else (none)) else (none))) else (none))) else (some ((⟨#[]⟩ : ByteArray), bt135.2.2.2.2)))
theorem computusref03_Text.mono : ∀ a0 k, LeO (computusref03_Text.f k a0) (computusref03_Text.f (k + 1) a0) := by
  intro a0 k
  unfold computusref03_Text.f
  repeat' first
      | (with_reducible exact computusref03_Fraction.mono _ _)
      | (with_reducible exact computusref03_Two.mono _ _)
      | (with_reducible exact LeO.refl _)
      | (with_reducible exact LeO.none _)
      | (with_reducible refine LeO.ite ?_ ?_)
      | (with_reducible refine LeO.bind ?_ (fun _ => ?_))
      | exact computusref03_Fraction.mono _ _
      | exact computusref03_Two.mono _ _
      | exact LeO.none _
      | refine LeO.ite ?_ ?_
      | refine LeO.bind ?_ (fun _ => ?_)
set_option maxHeartbeats 8000000 in
set_option maxRecDepth 100000 in
theorem computusref03_Text.calls (k : Nat) (a0 : Int) (r1 : ByteArray) (r2 : Int) (w : World) (h : computusref03_Text.f k a0 = some (r1, r2)) :
    Calls Try.prog 10 #[.int .i64 a0] w fun e w' => e = .returned (.tuple #[.string r1, .int .i64 r2]) ∧ Below w.heap.size w w' := by
  have HB := Aside0.mk (Below.refl w.heap.size w)
  have H : ((computusref03_Parts.f a0).bind fun bt135 => (if bt135.2.2.2.2 = 0 then ((computusref03_Two.f k bt135.1).bind fun t140 => (if t140.size + 1 ≤ 9223372036854775807 then ((computusref03_Two.f k bt135.2.1).bind fun t141 => (if (t140 ++ (⟨#[58]⟩ : ByteArray)).size + t141.size ≤ 9223372036854775807 then (if ((t140 ++ (⟨#[58]⟩ : ByteArray)) ++ t141).size + 1 ≤ 9223372036854775807 then ((computusref03_Two.f k bt135.2.2.1).bind fun t142 => (if (((t140 ++ (⟨#[58]⟩ : ByteArray)) ++ t141) ++ (⟨#[58]⟩ : ByteArray)).size + t142.size ≤ 9223372036854775807 then ((computusref03_Fraction.f k bt135.2.2.2.1).bind fun t143 => (if ((((t140 ++ (⟨#[58]⟩ : ByteArray)) ++ t141) ++ (⟨#[58]⟩ : ByteArray)) ++ t142).size + t143.size ≤ 9223372036854775807 then (some (((((t140 ++ (⟨#[58]⟩ : ByteArray)) ++ t141) ++ (⟨#[58]⟩ : ByteArray)) ++ t142) ++ t143, 0)) else (none))) else (none))) else (none)) else (none))) else (none))) else (some ((⟨#[]⟩ : ByteArray), bt135.2.2.2.2)))) = some (r1, r2) := h
  clear h
  replace H := Option.bind_eq_some_iff.mp H
  obtain ⟨⟨t135, t136, t137, t138, t139⟩, A20, H⟩ := H
  replace H : (if t139 = 0 then ((computusref03_Two.f k t135).bind fun t140 => (if t140.size + 1 ≤ 9223372036854775807 then ((computusref03_Two.f k t136).bind fun t141 => (if (t140 ++ (⟨#[58]⟩ : ByteArray)).size + t141.size ≤ 9223372036854775807 then (if ((t140 ++ (⟨#[58]⟩ : ByteArray)) ++ t141).size + 1 ≤ 9223372036854775807 then ((computusref03_Two.f k t137).bind fun t142 => (if (((t140 ++ (⟨#[58]⟩ : ByteArray)) ++ t141) ++ (⟨#[58]⟩ : ByteArray)).size + t142.size ≤ 9223372036854775807 then ((computusref03_Fraction.f k t138).bind fun t143 => (if ((((t140 ++ (⟨#[58]⟩ : ByteArray)) ++ t141) ++ (⟨#[58]⟩ : ByteArray)) ++ t142).size + t143.size ≤ 9223372036854775807 then (some (((((t140 ++ (⟨#[58]⟩ : ByteArray)) ++ t141) ++ (⟨#[58]⟩ : ByteArray)) ++ t142) ++ t143, 0)) else (none))) else (none))) else (none)) else (none))) else (none))) else (some ((⟨#[]⟩ : ByteArray), t139))) = some (r1, r2) := H
  have A2 := Aside0.mk A20
  clear A20
  by_cases c3 : t139 = 0
  · rw [if_pos c3] at H
    have c3b0 : (t139 == 0) = true := beq_iff_eq.mpr c3
    have c3b1 : (t139 != 0) = false := bne_eq_false_iff_eq.mpr c3
    clear c3
    replace H := Option.bind_eq_some_iff.mp H
    obtain ⟨t140, A40, H⟩ := H
    replace H : (if t140.size + 1 ≤ 9223372036854775807 then ((computusref03_Two.f k t136).bind fun t141 => (if (t140 ++ (⟨#[58]⟩ : ByteArray)).size + t141.size ≤ 9223372036854775807 then (if ((t140 ++ (⟨#[58]⟩ : ByteArray)) ++ t141).size + 1 ≤ 9223372036854775807 then ((computusref03_Two.f k t137).bind fun t142 => (if (((t140 ++ (⟨#[58]⟩ : ByteArray)) ++ t141) ++ (⟨#[58]⟩ : ByteArray)).size + t142.size ≤ 9223372036854775807 then ((computusref03_Fraction.f k t138).bind fun t143 => (if ((((t140 ++ (⟨#[58]⟩ : ByteArray)) ++ t141) ++ (⟨#[58]⟩ : ByteArray)) ++ t142).size + t143.size ≤ 9223372036854775807 then (some (((((t140 ++ (⟨#[58]⟩ : ByteArray)) ++ t141) ++ (⟨#[58]⟩ : ByteArray)) ++ t142) ++ t143, 0)) else (none))) else (none))) else (none)) else (none))) else (none)) = some (r1, r2) := H
    have A4 := Aside0.mk A40
    clear A40
    by_cases c5 : t140.size + 1 ≤ 9223372036854775807
    · rw [if_pos c5] at H
      have c5b0 := eq_true c5
      have c5b1 : decide (t140.size + 1 ≤ 9223372036854775807) = true := decide_eq_true c5
      try have c5b2 : (9223372036854775807 < t140.size + 1) = False := eq_false (Nat.not_lt.2 c5)
      replace H := Option.bind_eq_some_iff.mp H
      obtain ⟨t141, A60, H⟩ := H
      replace H : (if (t140 ++ (⟨#[58]⟩ : ByteArray)).size + t141.size ≤ 9223372036854775807 then (if ((t140 ++ (⟨#[58]⟩ : ByteArray)) ++ t141).size + 1 ≤ 9223372036854775807 then ((computusref03_Two.f k t137).bind fun t142 => (if (((t140 ++ (⟨#[58]⟩ : ByteArray)) ++ t141) ++ (⟨#[58]⟩ : ByteArray)).size + t142.size ≤ 9223372036854775807 then ((computusref03_Fraction.f k t138).bind fun t143 => (if ((((t140 ++ (⟨#[58]⟩ : ByteArray)) ++ t141) ++ (⟨#[58]⟩ : ByteArray)) ++ t142).size + t143.size ≤ 9223372036854775807 then (some (((((t140 ++ (⟨#[58]⟩ : ByteArray)) ++ t141) ++ (⟨#[58]⟩ : ByteArray)) ++ t142) ++ t143, 0)) else (none))) else (none))) else (none)) else (none)) = some (r1, r2) := H
      have A6 := Aside0.mk A60
      clear A60
      by_cases c7 : (t140 ++ (⟨#[58]⟩ : ByteArray)).size + t141.size ≤ 9223372036854775807
      · rw [if_pos c7] at H
        have c7h : ∀ W, (Op.stringOp .add (t140 ++ (⟨#[58]⟩ : ByteArray)) t141).run Try.prog W = .ok (.string ((t140 ++ (⟨#[58]⟩ : ByteArray)) ++ t141)) W := fun W => run_string_add_sum W _ _ c7


        by_cases c8 : ((t140 ++ (⟨#[58]⟩ : ByteArray)) ++ t141).size + 1 ≤ 9223372036854775807
        · rw [if_pos c8] at H
          have c8h : ∀ W, (Op.stringOp .add ((t140 ++ (⟨#[58]⟩ : ByteArray)) ++ t141) (⟨#[58]⟩ : ByteArray)).run Try.prog W = .ok (.string (((t140 ++ (⟨#[58]⟩ : ByteArray)) ++ t141) ++ (⟨#[58]⟩ : ByteArray))) W := fun W => run_string_add_sum W _ _ c8


          replace H := Option.bind_eq_some_iff.mp H
          obtain ⟨t142, A90, H⟩ := H
          replace H : (if (((t140 ++ (⟨#[58]⟩ : ByteArray)) ++ t141) ++ (⟨#[58]⟩ : ByteArray)).size + t142.size ≤ 9223372036854775807 then ((computusref03_Fraction.f k t138).bind fun t143 => (if ((((t140 ++ (⟨#[58]⟩ : ByteArray)) ++ t141) ++ (⟨#[58]⟩ : ByteArray)) ++ t142).size + t143.size ≤ 9223372036854775807 then (some (((((t140 ++ (⟨#[58]⟩ : ByteArray)) ++ t141) ++ (⟨#[58]⟩ : ByteArray)) ++ t142) ++ t143, 0)) else (none))) else (none)) = some (r1, r2) := H
          have A9 := Aside0.mk A90
          clear A90
          by_cases c10 : (((t140 ++ (⟨#[58]⟩ : ByteArray)) ++ t141) ++ (⟨#[58]⟩ : ByteArray)).size + t142.size ≤ 9223372036854775807
          · rw [if_pos c10] at H
            have c10h : ∀ W, (Op.stringOp .add (((t140 ++ (⟨#[58]⟩ : ByteArray)) ++ t141) ++ (⟨#[58]⟩ : ByteArray)) t142).run Try.prog W = .ok (.string ((((t140 ++ (⟨#[58]⟩ : ByteArray)) ++ t141) ++ (⟨#[58]⟩ : ByteArray)) ++ t142)) W := fun W => run_string_add_sum W _ _ c10


            replace H := Option.bind_eq_some_iff.mp H
            obtain ⟨t143, A110, H⟩ := H
            replace H : (if ((((t140 ++ (⟨#[58]⟩ : ByteArray)) ++ t141) ++ (⟨#[58]⟩ : ByteArray)) ++ t142).size + t143.size ≤ 9223372036854775807 then (some (((((t140 ++ (⟨#[58]⟩ : ByteArray)) ++ t141) ++ (⟨#[58]⟩ : ByteArray)) ++ t142) ++ t143, 0)) else (none)) = some (r1, r2) := H
            have A11 := Aside0.mk A110
            clear A110
            by_cases c12 : ((((t140 ++ (⟨#[58]⟩ : ByteArray)) ++ t141) ++ (⟨#[58]⟩ : ByteArray)) ++ t142).size + t143.size ≤ 9223372036854775807
            · rw [if_pos c12] at H
              have c12h : ∀ W, (Op.stringOp .add ((((t140 ++ (⟨#[58]⟩ : ByteArray)) ++ t141) ++ (⟨#[58]⟩ : ByteArray)) ++ t142) t143).run Try.prog W = .ok (.string (((((t140 ++ (⟨#[58]⟩ : ByteArray)) ++ t141) ++ (⟨#[58]⟩ : ByteArray)) ++ t142) ++ t143)) W := fun W => run_string_add_sum W _ _ c12


              simp only [Option.some.injEq, Prod.mk.injEq] at H
              obtain ⟨rfl, rfl⟩ := H
              go_enter Try.func10, Try.ntmps10
              go_wp2_with (first | ((with_reducible refine gate_callee (f := 23) rfl ?_); refine goesL_ (some 11) rfl rfl Try.func23 (by kernel_rfl) rfl #[.int .i64 a0] rfl (by (try simp only [List.map_toArray, List.map_cons, List.map_nil]); first | done | rfl | (simp only [List.length_drop, List.length_take]; rfl)) ?_; (with_reducible refine (computusref03_Parts.calls a0 t135 t136 t137 t138 t139 _ A2.out).mono ?_); rintro e w' ⟨rfl, ⟨nd, rfl⟩⟩; refine ⟨_, rfl, ?_⟩) | ((with_reducible refine gate_callee (f := 12) rfl ?_); refine goesL_ (some 21) rfl rfl Try.func12 (by kernel_rfl) rfl #[.int .i64 t135] rfl (by (try simp only [List.map_toArray, List.map_cons, List.map_nil]); first | done | rfl | (simp only [List.length_drop, List.length_take]; rfl)) ?_; (with_reducible refine (computusref03_Two.calls k t135 t140 _ A4.out).mono ?_); rintro e w13 ⟨rfl, hb⟩; refine ⟨_, rfl, ?_⟩; have n0_ := Aside0.mk (below_step (by repeat (first | (with_reducible first | exact HB.out | apply below_alloc | apply pw_below_drewN | apply below_drew1) | exact HB.out)) hb); clear HB; have HB := n0_; clear n0_; (try clear hb); (try clear hb2); (try clear hk); (try clear hi)) | ((with_reducible refine gate_callee (f := 12) rfl ?_); refine goesL_ (some 24) rfl rfl Try.func12 (by kernel_rfl) rfl #[.int .i64 t136] rfl (by (try simp only [List.map_toArray, List.map_cons, List.map_nil]); first | done | rfl | (simp only [List.length_drop, List.length_take]; rfl)) ?_; (with_reducible refine (computusref03_Two.calls k t136 t141 _ A6.out).mono ?_); rintro e w14 ⟨rfl, hb⟩; refine ⟨_, rfl, ?_⟩; have n0_ := Aside0.mk (below_step (by repeat (first | (with_reducible first | exact HB.out | apply below_alloc | apply pw_below_drewN | apply below_drew1) | exact HB.out)) hb); clear HB; have HB := n0_; clear n0_; (try clear hb); (try clear hb2); (try clear hk); (try clear hi)) | ((with_reducible refine gate_callee (f := 12) rfl ?_); refine goesL_ (some 28) rfl rfl Try.func12 (by kernel_rfl) rfl #[.int .i64 t137] rfl (by (try simp only [List.map_toArray, List.map_cons, List.map_nil]); first | done | rfl | (simp only [List.length_drop, List.length_take]; rfl)) ?_; (with_reducible refine (computusref03_Two.calls k t137 t142 _ A9.out).mono ?_); rintro e w15 ⟨rfl, hb⟩; refine ⟨_, rfl, ?_⟩; have n0_ := Aside0.mk (below_step (by repeat (first | (with_reducible first | exact HB.out | apply below_alloc | apply pw_below_drewN | apply below_drew1) | exact HB.out)) hb); clear HB; have HB := n0_; clear n0_; (try clear hb); (try clear hb2); (try clear hk); (try clear hi)) | ((with_reducible refine gate_callee (f := 14) rfl ?_); refine goesL_ (some 31) rfl rfl Try.func14 (by kernel_rfl) rfl #[.int .i64 t138] rfl (by (try simp only [List.map_toArray, List.map_cons, List.map_nil]); first | done | rfl | (simp only [List.length_drop, List.length_take]; rfl)) ?_; (with_reducible refine (computusref03_Fraction.calls k t138 t143 _ A11.out).mono ?_); rintro e w16 ⟨rfl, hb⟩; refine ⟨_, rfl, ?_⟩; have n0_ := Aside0.mk (below_step (by repeat (first | (with_reducible first | exact HB.out | apply below_alloc | apply pw_below_drewN | apply below_drew1) | exact HB.out)) hb); clear HB; have HB := n0_; clear n0_; (try clear hb); (try clear hb2); (try clear hk); (try clear hi)))
              go_ret2
              exact ⟨by first | rfl | (simp [errW_none, errW_some] <;> rfl) | (simp [*, errW_none, errW_some] <;> rfl), by repeat (first | (with_reducible first | exact HB.out | apply below_alloc | apply pw_below_drewN | apply below_drew1) | exact HB.out)⟩
            · rw [if_neg c12] at H
              exact absurd H (by simp)
          · rw [if_neg c10] at H
            exact absurd H (by simp)
        · rw [if_neg c8] at H
          exact absurd H (by simp)
      · rw [if_neg c7] at H
        exact absurd H (by simp)
    · rw [if_neg c5] at H
      exact absurd H (by simp)
  · rw [if_neg c3] at H
    have c3b0 : (t139 == 0) = false := beq_eq_false_iff_ne.mpr c3
    have c3b1 : (t139 != 0) = true := bne_iff_ne.mpr c3
    simp only [Option.some.injEq, Prod.mk.injEq] at H
    obtain ⟨rfl, rfl⟩ := H
    go_enter Try.func10, Try.ntmps10
    go_wp2_with (first | ((with_reducible refine gate_callee (f := 23) rfl ?_); refine goesL_ (some 11) rfl rfl Try.func23 (by kernel_rfl) rfl #[.int .i64 a0] rfl (by (try simp only [List.map_toArray, List.map_cons, List.map_nil]); first | done | rfl | (simp only [List.length_drop, List.length_take]; rfl)) ?_; (with_reducible refine (computusref03_Parts.calls a0 t135 t136 t137 t138 t139 _ A2.out).mono ?_); rintro e w' ⟨rfl, ⟨nd, rfl⟩⟩; refine ⟨_, rfl, ?_⟩))
    go_ret2
    exact ⟨by first | rfl | (simp [errW_none, errW_some] <;> rfl) | (simp [*, errW_none, errW_some] <;> rfl), by repeat (first | (with_reducible first | exact HB.out | apply below_alloc | apply pw_below_drewN | apply below_drew1) | exact HB.out)⟩

/-! ### clock_Long: function 15 -/
def clock_Long.f (a0 : Int) : Option (ByteArray) := if a0 < 0 then ((clock_text.f (IntKind.u64.wrap (-(IntKind.u64.wrap (a0))))).bind fun t144 => (if 1 + t144.size ≤ 9223372036854775807 then (some ((⟨#[45]⟩ : ByteArray) ++ t144)) else (none))) else ((clock_text.f (IntKind.u64.wrap (a0))).bind fun t145 => (some t145))
set_option maxHeartbeats 8000000 in
set_option maxRecDepth 100000 in
theorem clock_Long.calls (a0 : Int) (r : ByteArray) (w : World) (h : clock_Long.f a0 = some r) :
    Calls Try.prog 15 #[.int .i64 a0] w fun e w' => e = .returned (.string r) ∧ Below w.heap.size w w' := by
  have HB := Aside0.mk (Below.refl w.heap.size w)
  have H : (if a0 < 0 then ((clock_text.f (IntKind.u64.wrap (-(IntKind.u64.wrap (a0))))).bind fun t144 => (if 1 + t144.size ≤ 9223372036854775807 then (some ((⟨#[45]⟩ : ByteArray) ++ t144)) else (none))) else ((clock_text.f (IntKind.u64.wrap (a0))).bind fun t145 => (some t145))) = some r := h
  clear h
  by_cases c2 : a0 < 0
  · rw [if_pos c2] at H
    have c2b0 : decide (a0 < 0) = true := decide_eq_true c2
    clear c2
    replace H := Option.bind_eq_some_iff.mp H
    obtain ⟨t144, A30, H⟩ := H
    replace H : (if 1 + t144.size ≤ 9223372036854775807 then (some ((⟨#[45]⟩ : ByteArray) ++ t144)) else (none)) = some r := H
    have A3 := Aside0.mk A30
    clear A30
    by_cases c4 : 1 + t144.size ≤ 9223372036854775807
    · rw [if_pos c4] at H
      have c4b0 := eq_true c4
      have c4b1 : decide (1 + t144.size ≤ 9223372036854775807) = true := decide_eq_true c4
      try have c4b2 : (9223372036854775807 < 1 + t144.size) = False := eq_false (Nat.not_lt.2 c4)
      obtain rfl := Option.some.inj H
      go_enter Try.func15, Try.ntmps15
      go_wp2_with (first | ((with_reducible refine gate_callee (f := 29) rfl ?_); refine goesL_ (some 8) rfl rfl Try.func29 (by kernel_rfl) rfl #[.int .u64 (IntKind.u64.wrap (-(IntKind.u64.wrap (a0))))] rfl (by (try simp only [List.map_toArray, List.map_cons, List.map_nil]); first | done | rfl | (simp only [List.length_drop, List.length_take]; rfl)) ?_; (with_reducible refine (clock_text.calls (IntKind.u64.wrap (-(IntKind.u64.wrap (a0)))) t144 _ A3.out).mono ?_); rintro e w5 ⟨rfl, hb⟩; refine ⟨_, rfl, ?_⟩; have n0_ := Aside0.mk (below_step (by repeat (first | (with_reducible first | exact HB.out | apply below_alloc | apply pw_below_drewN | apply below_drew1) | exact HB.out)) hb); clear HB; have HB := n0_; clear n0_; (try clear hb); (try clear hb2); (try clear hk); (try clear hi)))
      go_ret
      exact ⟨by first | rfl | (simp [errW_none, errW_some] <;> rfl) | (simp [*, errW_none, errW_some] <;> rfl), by repeat (first | (with_reducible first | exact HB.out | apply below_alloc | apply pw_below_drewN | apply below_drew1) | exact HB.out)⟩
    · rw [if_neg c4] at H
      exact absurd H (by simp)
  · rw [if_neg c2] at H
    have c2b0 : decide (a0 < 0) = false := decide_eq_false c2
    clear c2
    replace H := Option.bind_eq_some_iff.mp H
    obtain ⟨t145, A60, H⟩ := H
    replace H : (some t145) = some r := H
    have A6 := Aside0.mk A60
    clear A60
    obtain rfl := Option.some.inj H
    go_enter Try.func15, Try.ntmps15
    go_wp2_with (first | ((with_reducible refine gate_callee (f := 29) rfl ?_); refine goesL_ (some 12) rfl rfl Try.func29 (by kernel_rfl) rfl #[.int .u64 (IntKind.u64.wrap (a0))] rfl (by (try simp only [List.map_toArray, List.map_cons, List.map_nil]); first | done | rfl | (simp only [List.length_drop, List.length_take]; rfl)) ?_; (with_reducible refine (clock_text.calls (IntKind.u64.wrap (a0)) t145 _ A6.out).mono ?_); rintro e w7 ⟨rfl, hb⟩; refine ⟨_, rfl, ?_⟩; have n0_ := Aside0.mk (below_step (by repeat (first | (with_reducible first | exact HB.out | apply below_alloc | apply pw_below_drewN | apply below_drew1) | exact HB.out)) hb); clear HB; have HB := n0_; clear n0_; (try clear hb); (try clear hb2); (try clear hk); (try clear hi)))
    go_ret
    exact ⟨by first | rfl | (simp [errW_none, errW_some] <;> rfl) | (simp [*, errW_none, errW_some] <;> rfl), by repeat (first | (with_reducible first | exact HB.out | apply below_alloc | apply pw_below_drewN | apply below_drew1) | exact HB.out)⟩

/-! ### computusref03_Long: function 16 -/
def computusref03_Long.j0 : Nat → Int → ByteArray → Option (ByteArray)
  | 0, _, _ => none
  | k + 1, x3, x4 => (computusref03_Two.f k (wrap64 (Int.tdiv (wrap64 (IntKind.u64.wrap (Int.tdiv x3 1000000))) 3600))).bind fun t146 => (if x4.size + t146.size ≤ 9223372036854775807 then (if (x4 ++ t146).size + 1 ≤ 9223372036854775807 then ((computusref03_Two.f k (Int.tmod (wrap64 (Int.tdiv (wrap64 (IntKind.u64.wrap (Int.tdiv x3 1000000))) 60)) 60)).bind fun t147 => (if ((x4 ++ t146) ++ (⟨#[58]⟩ : ByteArray)).size + t147.size ≤ 9223372036854775807 then (if (((x4 ++ t146) ++ (⟨#[58]⟩ : ByteArray)) ++ t147).size + 1 ≤ 9223372036854775807 then ((computusref03_Two.f k (Int.tmod (wrap64 (IntKind.u64.wrap (Int.tdiv x3 1000000))) 60)).bind fun t148 => (if ((((x4 ++ t146) ++ (⟨#[58]⟩ : ByteArray)) ++ t147) ++ (⟨#[58]⟩ : ByteArray)).size + t148.size ≤ 9223372036854775807 then ((computusref03_Fraction.f k (wrap64 (Int.tmod x3 1000000))).bind fun t149 => (if (((((x4 ++ t146) ++ (⟨#[58]⟩ : ByteArray)) ++ t147) ++ (⟨#[58]⟩ : ByteArray)) ++ t148).size + t149.size ≤ 9223372036854775807 then (some ((((((x4 ++ t146) ++ (⟨#[58]⟩ : ByteArray)) ++ t147) ++ (⟨#[58]⟩ : ByteArray)) ++ t148) ++ t149)) else (none))) else (none))) else (none)) else (none))) else (none)) else (none))
def computusref03_Long.f (k : Nat) (a0 : Int) : Option (ByteArray) := if a0 < 0 then (computusref03_Long.j0 k (IntKind.u64.wrap (-(IntKind.u64.wrap (a0)))) (⟨#[45]⟩ : ByteArray)) else (computusref03_Long.j0 k (IntKind.u64.wrap (a0)) (⟨#[]⟩ : ByteArray))
theorem computusref03_Long.mono_l : ∀ k, (∀ y0 y1, LeO (computusref03_Long.j0 k y0 y1) (computusref03_Long.j0 (k + 1) y0 y1))
  | 0 => fun _ _ r h => by simp [computusref03_Long.j0] at h
  | k + 1 => by
    have ih0 := computusref03_Long.mono_l k
    · intro y0 y1
      unfold computusref03_Long.j0
      repeat' first
      | (with_reducible exact ih0 _ _)
      | (with_reducible exact computusref03_Fraction.mono _ _)
      | (with_reducible exact computusref03_Two.mono _ _)
      | (with_reducible exact LeO.refl _)
      | (with_reducible exact LeO.none _)
      | (with_reducible refine LeO.ite ?_ ?_)
      | (with_reducible refine LeO.bind ?_ (fun _ => ?_))
      | exact ih0 _ _
      | exact computusref03_Fraction.mono _ _
      | exact computusref03_Two.mono _ _
      | exact LeO.none _
      | refine LeO.ite ?_ ?_
      | refine LeO.bind ?_ (fun _ => ?_)
theorem computusref03_Long.mono : ∀ a0 k, LeO (computusref03_Long.f k a0) (computusref03_Long.f (k + 1) a0) := by
  intro a0 k
  have ih0 := computusref03_Long.mono_l k
  unfold computusref03_Long.f
  repeat' first
      | (with_reducible exact ih0 _ _)
      | (with_reducible exact computusref03_Fraction.mono _ _)
      | (with_reducible exact computusref03_Two.mono _ _)
      | (with_reducible exact LeO.refl _)
      | (with_reducible exact LeO.none _)
      | (with_reducible refine LeO.ite ?_ ?_)
      | (with_reducible refine LeO.bind ?_ (fun _ => ?_))
      | exact ih0 _ _
      | exact computusref03_Fraction.mono _ _
      | exact computusref03_Two.mono _ _
      | exact LeO.none _
      | refine LeO.ite ?_ ?_
      | refine LeO.bind ?_ (fun _ => ?_)
set_option maxHeartbeats 8000000 in
set_option maxRecDepth 100000 in
theorem computusref03_Long.calls (k : Nat) (a0 : Int) (r : ByteArray) (w : World) (h : computusref03_Long.f k a0 = some r) :
    Calls Try.prog 16 #[.int .i64 a0] w fun e w' => e = .returned (.string r) ∧ Below w.heap.size w w' := by
  have HB := Aside0.mk (Below.refl w.heap.size w)
  have H : (if a0 < 0 then (computusref03_Long.j0 k (IntKind.u64.wrap (-(IntKind.u64.wrap (a0)))) (⟨#[45]⟩ : ByteArray)) else (computusref03_Long.j0 k (IntKind.u64.wrap (a0)) (⟨#[]⟩ : ByteArray))) = some r := h
  clear h
  have HC2 := Aside0.mk H
  clear H
  go_enter Try.func16, Try.ntmps16
  go_upto_if 9 with (fail)
  go_cut [3, 4] (fun v3 v4 wc => ∃ (kq : Nat) (x3_1 : Int) (x4_1 : ByteArray), v3 = .int .u64 x3_1 ∧ v4 = .string x4_1 ∧ Aside0 (computusref03_Long.j0 kq x3_1 x4_1 = some r) ∧ Aside0 (kq ≤ k) ∧ Aside0 (Below w.heap.size w wc))
  case first =>
    have H := HC2.out
    clear HC2
    by_cases c3 : a0 < 0
    · rw [if_pos c3] at H
      have c3b0 : decide (a0 < 0) = true := decide_eq_true c3
      clear c3
      (first | rw [c3b0] | (simp only [i64_w, i32_w]; rw [c3b0]) | skip)
      have H' := Aside0.mk H
      clear H
      go_wp2
      go_meet
      case rel => exact ⟨_, (IntKind.u64.wrap (-(IntKind.u64.wrap (a0)))), ((⟨#[45]⟩ : ByteArray)), (by first | rfl | (simp; done) | (simp [*]; done)), (by first | rfl | (simp; done) | (simp [*]; done)), H', ⟨by first | omega | exact Nat.le_refl _⟩, ⟨by repeat (first | (with_reducible first | exact HB.out | apply below_alloc | apply pw_below_drewN | apply below_drew1) | exact HB.out)⟩⟩
    · rw [if_neg c3] at H
      have c3b0 : decide (a0 < 0) = false := decide_eq_false c3
      clear c3
      (first | rw [c3b0] | (simp only [i64_w, i32_w]; rw [c3b0]) | skip)
      have H' := Aside0.mk H
      clear H
      go_wp2
      go_meet
      case rel => exact ⟨_, (IntKind.u64.wrap (a0)), ((⟨#[]⟩ : ByteArray)), (by first | rfl | (simp; done) | (simp [*]; done)), (by first | rfl | (simp; done) | (simp [*]; done)), H', ⟨by first | omega | exact Nat.le_refl _⟩, ⟨by repeat (first | (with_reducible first | exact HB.out | apply below_alloc | apply pw_below_drewN | apply below_drew1) | exact HB.out)⟩⟩
  case rest =>
    clear HC2
    try clear c1
    try clear p2
    try clear c3
    try clear c3b0
    obtain ⟨kq, x3_1, x4_1, rfl, rfl, HA, HJ1, HB⟩ := hcut
    cases kq with
    | zero => exact absurd HA.out (by simp [computusref03_Long.j0])
    | succ kj1 =>
      have H := HA.out
      clear HA
      simp only [computusref03_Long.j0] at H
      replace H := Option.bind_eq_some_iff.mp H
      obtain ⟨t146, A40, H⟩ := H
      replace H : (if x4_1.size + t146.size ≤ 9223372036854775807 then (if (x4_1 ++ t146).size + 1 ≤ 9223372036854775807 then ((computusref03_Two.f kj1 (Int.tmod (wrap64 (Int.tdiv (wrap64 (IntKind.u64.wrap (Int.tdiv x3_1 1000000))) 60)) 60)).bind fun t147 => (if ((x4_1 ++ t146) ++ (⟨#[58]⟩ : ByteArray)).size + t147.size ≤ 9223372036854775807 then (if (((x4_1 ++ t146) ++ (⟨#[58]⟩ : ByteArray)) ++ t147).size + 1 ≤ 9223372036854775807 then ((computusref03_Two.f kj1 (Int.tmod (wrap64 (IntKind.u64.wrap (Int.tdiv x3_1 1000000))) 60)).bind fun t148 => (if ((((x4_1 ++ t146) ++ (⟨#[58]⟩ : ByteArray)) ++ t147) ++ (⟨#[58]⟩ : ByteArray)).size + t148.size ≤ 9223372036854775807 then ((computusref03_Fraction.f kj1 (wrap64 (Int.tmod x3_1 1000000))).bind fun t149 => (if (((((x4_1 ++ t146) ++ (⟨#[58]⟩ : ByteArray)) ++ t147) ++ (⟨#[58]⟩ : ByteArray)) ++ t148).size + t149.size ≤ 9223372036854775807 then (some ((((((x4_1 ++ t146) ++ (⟨#[58]⟩ : ByteArray)) ++ t147) ++ (⟨#[58]⟩ : ByteArray)) ++ t148) ++ t149)) else (none))) else (none))) else (none)) else (none))) else (none)) else (none)) = some r := H
      have A4 := Aside0.mk A40
      clear A40
      by_cases c5 : x4_1.size + t146.size ≤ 9223372036854775807
      · rw [if_pos c5] at H
        have c5b0 := eq_true c5
        have c5b1 : decide (x4_1.size + t146.size ≤ 9223372036854775807) = true := decide_eq_true c5
        try have c5b2 : (9223372036854775807 < x4_1.size + t146.size) = False := eq_false (Nat.not_lt.2 c5)
        by_cases c6 : (x4_1 ++ t146).size + 1 ≤ 9223372036854775807
        · rw [if_pos c6] at H
          have c6h : ∀ W, (Op.stringOp .add (x4_1 ++ t146) (⟨#[58]⟩ : ByteArray)).run Try.prog W = .ok (.string ((x4_1 ++ t146) ++ (⟨#[58]⟩ : ByteArray))) W := fun W => run_string_add_sum W _ _ c6


          replace H := Option.bind_eq_some_iff.mp H
          obtain ⟨t147, A70, H⟩ := H
          replace H : (if ((x4_1 ++ t146) ++ (⟨#[58]⟩ : ByteArray)).size + t147.size ≤ 9223372036854775807 then (if (((x4_1 ++ t146) ++ (⟨#[58]⟩ : ByteArray)) ++ t147).size + 1 ≤ 9223372036854775807 then ((computusref03_Two.f kj1 (Int.tmod (wrap64 (IntKind.u64.wrap (Int.tdiv x3_1 1000000))) 60)).bind fun t148 => (if ((((x4_1 ++ t146) ++ (⟨#[58]⟩ : ByteArray)) ++ t147) ++ (⟨#[58]⟩ : ByteArray)).size + t148.size ≤ 9223372036854775807 then ((computusref03_Fraction.f kj1 (wrap64 (Int.tmod x3_1 1000000))).bind fun t149 => (if (((((x4_1 ++ t146) ++ (⟨#[58]⟩ : ByteArray)) ++ t147) ++ (⟨#[58]⟩ : ByteArray)) ++ t148).size + t149.size ≤ 9223372036854775807 then (some ((((((x4_1 ++ t146) ++ (⟨#[58]⟩ : ByteArray)) ++ t147) ++ (⟨#[58]⟩ : ByteArray)) ++ t148) ++ t149)) else (none))) else (none))) else (none)) else (none)) = some r := H
          have A7 := Aside0.mk A70
          clear A70
          by_cases c8 : ((x4_1 ++ t146) ++ (⟨#[58]⟩ : ByteArray)).size + t147.size ≤ 9223372036854775807
          · rw [if_pos c8] at H
            have c8h : ∀ W, (Op.stringOp .add ((x4_1 ++ t146) ++ (⟨#[58]⟩ : ByteArray)) t147).run Try.prog W = .ok (.string (((x4_1 ++ t146) ++ (⟨#[58]⟩ : ByteArray)) ++ t147)) W := fun W => run_string_add_sum W _ _ c8


            by_cases c9 : (((x4_1 ++ t146) ++ (⟨#[58]⟩ : ByteArray)) ++ t147).size + 1 ≤ 9223372036854775807
            · rw [if_pos c9] at H
              have c9h : ∀ W, (Op.stringOp .add (((x4_1 ++ t146) ++ (⟨#[58]⟩ : ByteArray)) ++ t147) (⟨#[58]⟩ : ByteArray)).run Try.prog W = .ok (.string ((((x4_1 ++ t146) ++ (⟨#[58]⟩ : ByteArray)) ++ t147) ++ (⟨#[58]⟩ : ByteArray))) W := fun W => run_string_add_sum W _ _ c9


              replace H := Option.bind_eq_some_iff.mp H
              obtain ⟨t148, A100, H⟩ := H
              replace H : (if ((((x4_1 ++ t146) ++ (⟨#[58]⟩ : ByteArray)) ++ t147) ++ (⟨#[58]⟩ : ByteArray)).size + t148.size ≤ 9223372036854775807 then ((computusref03_Fraction.f kj1 (wrap64 (Int.tmod x3_1 1000000))).bind fun t149 => (if (((((x4_1 ++ t146) ++ (⟨#[58]⟩ : ByteArray)) ++ t147) ++ (⟨#[58]⟩ : ByteArray)) ++ t148).size + t149.size ≤ 9223372036854775807 then (some ((((((x4_1 ++ t146) ++ (⟨#[58]⟩ : ByteArray)) ++ t147) ++ (⟨#[58]⟩ : ByteArray)) ++ t148) ++ t149)) else (none))) else (none)) = some r := H
              have A10 := Aside0.mk A100
              clear A100
              by_cases c11 : ((((x4_1 ++ t146) ++ (⟨#[58]⟩ : ByteArray)) ++ t147) ++ (⟨#[58]⟩ : ByteArray)).size + t148.size ≤ 9223372036854775807
              · rw [if_pos c11] at H
                have c11h : ∀ W, (Op.stringOp .add ((((x4_1 ++ t146) ++ (⟨#[58]⟩ : ByteArray)) ++ t147) ++ (⟨#[58]⟩ : ByteArray)) t148).run Try.prog W = .ok (.string (((((x4_1 ++ t146) ++ (⟨#[58]⟩ : ByteArray)) ++ t147) ++ (⟨#[58]⟩ : ByteArray)) ++ t148)) W := fun W => run_string_add_sum W _ _ c11


                replace H := Option.bind_eq_some_iff.mp H
                obtain ⟨t149, A120, H⟩ := H
                replace H : (if (((((x4_1 ++ t146) ++ (⟨#[58]⟩ : ByteArray)) ++ t147) ++ (⟨#[58]⟩ : ByteArray)) ++ t148).size + t149.size ≤ 9223372036854775807 then (some ((((((x4_1 ++ t146) ++ (⟨#[58]⟩ : ByteArray)) ++ t147) ++ (⟨#[58]⟩ : ByteArray)) ++ t148) ++ t149)) else (none)) = some r := H
                have A12 := Aside0.mk A120
                clear A120
                by_cases c13 : (((((x4_1 ++ t146) ++ (⟨#[58]⟩ : ByteArray)) ++ t147) ++ (⟨#[58]⟩ : ByteArray)) ++ t148).size + t149.size ≤ 9223372036854775807
                · rw [if_pos c13] at H
                  have c13h : ∀ W, (Op.stringOp .add (((((x4_1 ++ t146) ++ (⟨#[58]⟩ : ByteArray)) ++ t147) ++ (⟨#[58]⟩ : ByteArray)) ++ t148) t149).run Try.prog W = .ok (.string ((((((x4_1 ++ t146) ++ (⟨#[58]⟩ : ByteArray)) ++ t147) ++ (⟨#[58]⟩ : ByteArray)) ++ t148) ++ t149)) W := fun W => run_string_add_sum W _ _ c13


                  obtain rfl := Option.some.inj H
                  go_wp2_with (first | ((with_reducible refine gate_callee (f := 12) rfl ?_); refine goesL_ (some 18) rfl rfl Try.func12 (by kernel_rfl) rfl #[.int .i64 (wrap64 (Int.tdiv (wrap64 (IntKind.u64.wrap (Int.tdiv x3_1 1000000))) 3600))] rfl (by (try simp only [List.map_toArray, List.map_cons, List.map_nil]); first | done | rfl | (simp only [List.length_drop, List.length_take]; rfl)) ?_; (with_reducible refine (computusref03_Two.calls kj1 (wrap64 (Int.tdiv (wrap64 (IntKind.u64.wrap (Int.tdiv x3_1 1000000))) 3600)) t146 _ A4.out).mono ?_); rintro e w14 ⟨rfl, hb⟩; refine ⟨_, rfl, ?_⟩; have n0_ := Aside0.mk (below_step (by repeat (first | (with_reducible first | exact HB.out | apply below_alloc | apply pw_below_drewN | apply below_drew1) | exact HB.out)) hb); clear HB; have HB := n0_; clear n0_; (try clear hb); (try clear hb2); (try clear hk); (try clear hi)) | ((with_reducible refine gate_callee (f := 12) rfl ?_); refine goesL_ (some 24) rfl rfl Try.func12 (by kernel_rfl) rfl #[.int .i64 (Int.tmod (wrap64 (Int.tdiv (wrap64 (IntKind.u64.wrap (Int.tdiv x3_1 1000000))) 60)) 60)] rfl (by (try simp only [List.map_toArray, List.map_cons, List.map_nil]); first | done | rfl | (simp only [List.length_drop, List.length_take]; rfl)) ?_; (with_reducible refine (computusref03_Two.calls kj1 (Int.tmod (wrap64 (Int.tdiv (wrap64 (IntKind.u64.wrap (Int.tdiv x3_1 1000000))) 60)) 60) t147 _ A7.out).mono ?_); rintro e w15 ⟨rfl, hb⟩; refine ⟨_, rfl, ?_⟩; have n0_ := Aside0.mk (below_step (by repeat (first | (with_reducible first | exact HB.out | apply below_alloc | apply pw_below_drewN | apply below_drew1) | exact HB.out)) hb); clear HB; have HB := n0_; clear n0_; (try clear hb); (try clear hb2); (try clear hk); (try clear hi)) | ((with_reducible refine gate_callee (f := 12) rfl ?_); refine goesL_ (some 29) rfl rfl Try.func12 (by kernel_rfl) rfl #[.int .i64 (Int.tmod (wrap64 (IntKind.u64.wrap (Int.tdiv x3_1 1000000))) 60)] rfl (by (try simp only [List.map_toArray, List.map_cons, List.map_nil]); first | done | rfl | (simp only [List.length_drop, List.length_take]; rfl)) ?_; (with_reducible refine (computusref03_Two.calls kj1 (Int.tmod (wrap64 (IntKind.u64.wrap (Int.tdiv x3_1 1000000))) 60) t148 _ A10.out).mono ?_); rintro e w16 ⟨rfl, hb⟩; refine ⟨_, rfl, ?_⟩; have n0_ := Aside0.mk (below_step (by repeat (first | (with_reducible first | exact HB.out | apply below_alloc | apply pw_below_drewN | apply below_drew1) | exact HB.out)) hb); clear HB; have HB := n0_; clear n0_; (try clear hb); (try clear hb2); (try clear hk); (try clear hi)) | ((with_reducible refine gate_callee (f := 14) rfl ?_); refine goesL_ (some 34) rfl rfl Try.func14 (by kernel_rfl) rfl #[.int .i64 (wrap64 (Int.tmod x3_1 1000000))] rfl (by (try simp only [List.map_toArray, List.map_cons, List.map_nil]); first | done | rfl | (simp only [List.length_drop, List.length_take]; rfl)) ?_; (with_reducible refine (computusref03_Fraction.calls kj1 (wrap64 (Int.tmod x3_1 1000000)) t149 _ A12.out).mono ?_); rintro e w17 ⟨rfl, hb⟩; refine ⟨_, rfl, ?_⟩; have n0_ := Aside0.mk (below_step (by repeat (first | (with_reducible first | exact HB.out | apply below_alloc | apply pw_below_drewN | apply below_drew1) | exact HB.out)) hb); clear HB; have HB := n0_; clear n0_; (try clear hb); (try clear hb2); (try clear hk); (try clear hi)))
                  go_ret
                  exact ⟨by first | rfl | (simp [errW_none, errW_some] <;> rfl) | (simp [*, errW_none, errW_some] <;> rfl), by repeat (first | (with_reducible first | exact HB.out | apply below_alloc | apply pw_below_drewN | apply below_drew1) | exact HB.out)⟩
                · rw [if_neg c13] at H
                  exact absurd H (by simp)
              · rw [if_neg c11] at H
                exact absurd H (by simp)
            · rw [if_neg c9] at H
              exact absurd H (by simp)
          · rw [if_neg c8] at H
            exact absurd H (by simp)
        · rw [if_neg c6] at H
          exact absurd H (by simp)
      · rw [if_neg c5] at H
        exact absurd H (by simp)

end Go.Proofs.Ytecijnjnhdjokaa.PClock
