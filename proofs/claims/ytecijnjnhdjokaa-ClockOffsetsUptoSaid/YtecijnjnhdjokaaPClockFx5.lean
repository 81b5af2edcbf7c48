-- Written by a program of this session (mkprint.py, over the kit's print), out of the translation and of the contracts that the session gives.
import Derived.Test.YtecijnjnhdjokaaPClockFx0
import Derived.Test.YtecijnjnhdjokaaPClockFx4
namespace Go.Proofs.Ytecijnjnhdjokaa.PClockF
open Go.RowKit Go.Proofs.YtecijnjnhdjokaaW.PrintWords Go.Proofs.YtecijnjnhdjokaaW.PrintLast Go.Proofs.YtecijnjnhdjokaaW.PrintMore
attribute [local go_sem] max2_int min2_int max_two min_two max_three min_three max_four min_four   -- for this text's walks alone
set_option linter.unusedVariables false
set_option linter.unusedSimpArgs false

/-! ### computusref03_Two: function 12 -/
mutual
def computusref03_Two.j0 : Nat → Int → Bool → Option (ByteArray)
  | 0, _, _ => none
  | k + 1, x0, x8 => if x8 = true then ((computusref03_Digits.f k x0).bind fun t184 => (if 1 + t184.size ≤ 9223372036854775807 then (some ((⟨#[48]⟩ : ByteArray) ++ t184)) else (none))) else (if x0 < 0 then (computusref03_Two.j1 k x0 (decide (x0 > (-10)))) else (computusref03_Two.j1 k x0 false))
def computusref03_Two.j1 : Nat → Int → Bool → Option (ByteArray)
  | 0, _, _ => none
  | k + 1, x0, x17 => if x17 = true then ((computusref03_Digits.f k (wrap64 (-x0))).bind fun t185 => (if 2 + t185.size ≤ 9223372036854775807 then (some ((⟨#[45, 48]⟩ : ByteArray) ++ t185)) else (none))) else ((computusref03_Digits.f k x0).bind fun t186 => (some t186))
end
def computusref03_Two.f (k : Nat) (a0 : Int) : Option (ByteArray) := if a0 ≥ 0 then (computusref03_Two.j0 k a0 (decide (a0 < 10))) else (computusref03_Two.j0 k a0 false)
theorem computusref03_Two.mono_l : ∀ k, (∀ y0 y1, LeO (computusref03_Two.j0 k y0 y1) (computusref03_Two.j0 (k + 1) y0 y1)) ∧ (∀ y0 y1, LeO (computusref03_Two.j1 k y0 y1) (computusref03_Two.j1 (k + 1) y0 y1))
  | 0 => ⟨fun _ _ r h => by simp [computusref03_Two.j0] at h, fun _ _ r h => by simp [computusref03_Two.j1] at h⟩
  | k + 1 => by
    obtain ⟨ih0, ih1⟩ := computusref03_Two.mono_l k
    refine ⟨?_, ?_⟩
    · intro y0 y1
      unfold computusref03_Two.j0
      repeat' first
      | (with_reducible exact ih0 _ _)
      | (with_reducible exact ih1 _ _)
      | (with_reducible exact computusref03_Digits.mono _ _)
      | (with_reducible exact LeO.refl _)
      | (with_reducible exact LeO.none _)
      | (with_reducible refine LeO.ite ?_ ?_)
      | (with_reducible refine LeO.bind ?_ (fun _ => ?_))
      | exact ih0 _ _
      | exact ih1 _ _
      | exact computusref03_Digits.mono _ _
      | exact LeO.none _
      | refine LeO.ite ?_ ?_
      | refine LeO.bind ?_ (fun _ => ?_)
    · intro y0 y1
      unfold computusref03_Two.j1
      repeat' first
      | (with_reducible exact ih0 _ _)
      | (with_reducible exact ih1 _ _)
      | (with_reducible exact computusref03_Digits.mono _ _)
      | (with_reducible exact LeO.refl _)
      | (with_reducible exact LeO.none _)
      | (with_reducible refine LeO.ite ?_ ?_)
      | (with_reducible refine LeO.bind ?_ (fun _ => ?_))
      | exact ih0 _ _
      | exact ih1 _ _
      | exact computusref03_Digits.mono _ _
      | exact LeO.none _
      | refine LeO.ite ?_ ?_
      | refine LeO.bind ?_ (fun _ => ?_)
theorem computusref03_Two.mono : ∀ a0 k, LeO (computusref03_Two.f k a0) (computusref03_Two.f (k + 1) a0) := by
  intro a0 k
  obtain ⟨ih0, ih1⟩ := computusref03_Two.mono_l k
  unfold computusref03_Two.f
  repeat' first
      | (with_reducible exact ih0 _ _)
      | (with_reducible exact ih1 _ _)
      | (with_reducible exact computusref03_Digits.mono _ _)
      | (with_reducible exact LeO.refl _)
      | (with_reducible exact LeO.none _)
      | (with_reducible refine LeO.ite ?_ ?_)
      | (with_reducible refine LeO.bind ?_ (fun _ => ?_))
      | exact ih0 _ _
      | exact ih1 _ _
      | exact computusref03_Digits.mono _ _
      | exact LeO.none _
      | refine LeO.ite ?_ ?_
      | refine LeO.bind ?_ (fun _ => ?_)
set_option maxHeartbeats 8000000 in
set_option maxRecDepth 100000 in
theorem computusref03_Two.calls (k : Nat) (a0 : Int) (r : ByteArray) (w : World) (h : computusref03_Two.f k a0 = some r) :
    Calls Try.prog 12 #[.int .i64 a0] w fun e w' => e = .returned (.string r) ∧ Below w.heap.size w w' := by
  have HB := Aside0.mk (Below.refl w.heap.size w)
  have H : (if a0 ≥ 0 then (computusref03_Two.j0 k a0 (decide (a0 < 10))) else (computusref03_Two.j0 k a0 false)) = some r := h
  clear h
  have HC2 := Aside0.mk H
  clear H
  go_enter Try.func12, Try.ntmps12
  go_upto_region 1 with (fail)
  go_cut [8] (fun v8 wc => ∃ (kq : Nat) (x8_1 : Bool), v8 = .bool x8_1 ∧ Aside0 (computusref03_Two.j0 kq a0 x8_1 = some r) ∧ Aside0 (kq ≤ k) ∧ Aside0 (Below w.heap.size w wc))
  case first =>
    have H := HC2.out
    clear HC2
    by_cases c3 : a0 ≥ 0
    · rw [if_pos c3] at H
      have c3b0 : decide (0 ≤ a0) = true := decide_eq_true c3
      clear c3
      (first | rw [c3b0] | (simp only [i64_w, i32_w]; rw [c3b0]) | skip)
      have H' := Aside0.mk H
      clear H
      go_wp2
      go_meet
      case rel => exact ⟨_, (decide (a0 < 10)), (by first | rfl | (simp; done) | (simp [*]; done)), H', ⟨by first | omega | exact Nat.le_refl _⟩, ⟨by repeat (first | (with_reducible first | exact HB.out | apply below_alloc | apply pw_below_drewN | apply below_drew1) | exact HB.out)⟩⟩
    · rw [if_neg c3] at H
      have c3b0 : decide (0 ≤ a0) = false := decide_eq_false c3
      clear c3
      (first | rw [c3b0] | (simp only [i64_w, i32_w]; rw [c3b0]) | skip)
      have H' := Aside0.mk H
      clear H
      go_wp2
      go_meet
      case rel => exact ⟨_, (false), (by first | rfl | (simp; done) | (simp [*]; done)), H', ⟨by first | omega | exact Nat.le_refl _⟩, ⟨by repeat (first | (with_reducible first | exact HB.out | apply below_alloc | apply pw_below_drewN | apply below_drew1) | exact HB.out)⟩⟩
  case rest =>
    clear HC2
    try clear c1
    try clear p2
    try clear c3
    try clear c3b0
    obtain ⟨kq, x8_1, rfl, HA, HJ1, HB⟩ := hcut
    cases kq with
    | zero => exact absurd HA.out (by simp [computusref03_Two.j0])
    | succ kj1 =>
      have H := HA.out
      clear HA
      simp only [computusref03_Two.j0] at H
      by_cases c4 : x8_1 = true
      · subst c4
        have H1 : ((computusref03_Digits.f kj1 a0).bind fun t184 => (if 1 + t184.size ≤ 9223372036854775807 then (some ((⟨#[48]⟩ : ByteArray) ++ t184)) else (none))) = some r := by rw [if_pos rfl] at H; exact H
        clear H
        have H := H1
        clear H1
        replace H := Option.bind_eq_some_iff.mp H
        obtain ⟨t184, A50, H⟩ := H
        replace H : (if 1 + t184.size ≤ 9223372036854775807 then (some ((⟨#[48]⟩ : ByteArray) ++ t184)) else (none)) = some r := H
        have A5 := Aside0.mk A50
        clear A50
        by_cases c6 : 1 + t184.size ≤ 9223372036854775807
        · rw [if_pos c6] at H
          have c6b0 := eq_true c6
          have c6b1 : decide (1 + t184.size ≤ 9223372036854775807) = true := decide_eq_true c6
          try have c6b2 : (9223372036854775807 < 1 + t184.size) = False := eq_false (Nat.not_lt.2 c6)
          obtain rfl := Option.some.inj H
          go_wp2_with (first | ((with_reducible refine gate_callee (f := 32) rfl ?_); refine goesL_ (some 10) rfl rfl Try.func32 (by kernel_rfl) rfl #[.int .i64 a0] rfl (by (try simp only [List.map_toArray, List.map_cons, List.map_nil]); first | done | rfl | (simp only [List.length_drop, List.length_take]; rfl)) ?_; (with_reducible refine (computusref03_Digits.calls kj1 a0 t184 _ A5.out).mono ?_); rintro e w7 ⟨rfl, hb⟩; refine ⟨_, rfl, ?_⟩; have n0_ := Aside0.mk (below_step (by repeat (first | (with_reducible first | exact HB.out | apply below_alloc | apply pw_below_drewN | apply below_drew1) | exact HB.out)) hb); clear HB; have HB := n0_; clear n0_; (try clear hb); (try clear hb2); (try clear hk); (try clear hi)))
          go_ret
          exact ⟨by first | rfl | (simp [errW_none, errW_some] <;> rfl) | (simp [*, errW_none, errW_some] <;> rfl), by repeat (first | (with_reducible first | exact HB.out | apply below_alloc | apply pw_below_drewN | apply below_drew1) | exact HB.out)⟩
        · rw [if_neg c6] at H
          exact absurd H (by simp)
      · replace c4 := Bool.eq_false_iff.mpr c4
        subst c4
        have H1 : (if a0 < 0 then (computusref03_Two.j1 kj1 a0 (decide (a0 > (-10)))) else (computusref03_Two.j1 kj1 a0 false)) = some r := by rw [if_neg (show ¬ (false = true) by decide)] at H; exact H
        clear H
        have H := H1
        clear H1
        have HC8 := Aside0.mk H
        clear H
        go_upto_region 3 with (fail)
        go_cut [17] (fun v17 wc => ∃ (kq : Nat) (x17_7 : Bool), v17 = .bool x17_7 ∧ Aside0 (computusref03_Two.j1 kq a0 x17_7 = some r) ∧ Aside0 (kq ≤ kj1) ∧ Aside0 (Below w.heap.size w wc))
        case first =>
          have H := HC8.out
          clear HC8
          by_cases c9 : a0 < 0
          · rw [if_pos c9] at H
            have c9b0 : decide (a0 < 0) = true := decide_eq_true c9
            clear c9
            (first | rw [c9b0] | (simp only [i64_w, i32_w]; rw [c9b0]) | skip)
            have H' := Aside0.mk H
            clear H
            go_wp2
            go_meet
            case rel => exact ⟨_, (decide (a0 > (-10))), (by first | rfl | (simp; done) | (simp [*]; done)), H', ⟨by have := HJ1.out; first | omega | exact Nat.le_refl _⟩, ⟨by repeat (first | (with_reducible first | exact HB.out | apply below_alloc | apply pw_below_drewN | apply below_drew1) | exact HB.out)⟩⟩
          · rw [if_neg c9] at H
            have c9b0 : decide (a0 < 0) = false := decide_eq_false c9
            clear c9
            (first | rw [c9b0] | (simp only [i64_w, i32_w]; rw [c9b0]) | skip)
            have H' := Aside0.mk H
            clear H
            go_wp2
            go_meet
            case rel => exact ⟨_, (false), (by first | rfl | (simp; done) | (simp [*]; done)), H', ⟨by have := HJ1.out; first | omega | exact Nat.le_refl _⟩, ⟨by repeat (first | (with_reducible first | exact HB.out | apply below_alloc | apply pw_below_drewN | apply below_drew1) | exact HB.out)⟩⟩
        case rest =>
          clear HC8
          try clear c1
          try clear p2
          try clear c3
          try clear c3b0
          try clear c4
          try clear c6
          try clear c6b0
          try clear c6b1
          try clear c6b2
          try clear c9
          try clear c9b0
          try clear p2
          obtain ⟨kq, x17_7, rfl, HA, HJ7, HB⟩ := hcut
          cases kq with
          | zero => exact absurd HA.out (by simp [computusref03_Two.j1])
          | succ kj7 =>
            have H := HA.out
            clear HA
            simp only [computusref03_Two.j1] at H
            by_cases c10 : x17_7 = true
            · subst c10
              have H1 : ((computusref03_Digits.f kj7 (wrap64 (-a0))).bind fun t185 => (if 2 + t185.size ≤ 9223372036854775807 then (some ((⟨#[45, 48]⟩ : ByteArray) ++ t185)) else (none))) = some r := by rw [if_pos rfl] at H; exact H
              clear H
              have H := H1
              clear H1
              replace H := Option.bind_eq_some_iff.mp H
              obtain ⟨t185, A110, H⟩ := H
              replace H : (if 2 + t185.size ≤ 9223372036854775807 then (some ((⟨#[45, 48]⟩ : ByteArray) ++ t185)) else (none)) = some r := H
              have A11 := Aside0.mk A110
              clear A110
              by_cases c12 : 2 + t185.size ≤ 9223372036854775807
              · rw [if_pos c12] at H
                have c12b0 := eq_true c12
                have c12b1 : decide (2 + t185.size ≤ 9223372036854775807) = true := decide_eq_true c12
                try have c12b2 : (9223372036854775807 < 2 + t185.size) = False := eq_false (Nat.not_lt.2 c12)
                obtain rfl := Option.some.inj H
                go_wp2_with (first | ((with_reducible refine gate_callee (f := 32) rfl ?_); refine goesL_ (some 20) rfl rfl Try.func32 (by kernel_rfl) rfl #[.int .i64 (wrap64 (-a0))] rfl (by (try simp only [List.map_toArray, List.map_cons, List.map_nil]); first | done | rfl | (simp only [List.length_drop, List.length_take]; rfl)) ?_; (with_reducible refine (computusref03_Digits.calls kj7 (wrap64 (-a0)) t185 _ A11.out).mono ?_); rintro e w13 ⟨rfl, hb⟩; refine ⟨_, rfl, ?_⟩; have n0_ := Aside0.mk (below_step (by repeat (first | (with_reducible first | exact HB.out | apply below_alloc | apply pw_below_drewN | apply below_drew1) | exact HB.out)) hb); clear HB; have HB := n0_; clear n0_; (try clear hb); (try clear hb2); (try clear hk); (try clear hi)))
                go_ret
                exact ⟨by first | rfl | (simp [errW_none, errW_some] <;> rfl) | (simp [*, errW_none, errW_some] <;> rfl), by repeat (first | (with_reducible first | exact HB.out | apply below_alloc | apply pw_below_drewN | apply below_drew1) | exact HB.out)⟩
              · rw [if_neg c12] at H
                exact absurd H (by simp)
            · replace c10 := Bool.eq_false_iff.mpr c10
              subst c10
              have H1 : ((computusref03_Digits.f kj7 a0).bind fun t186 => (some t186)) = some r := by rw [if_neg (show ¬ (false = true) by decide)] at H; exact H
              clear H
              have H := H1
              clear H1
              replace H := Option.bind_eq_some_iff.mp H
              obtain ⟨t186, A140, H⟩ := H
              replace H : (some t186) = some r := H
              have A14 := Aside0.mk A140
              clear A140
              obtain rfl := Option.some.inj H
              go_wp2_with (first | ((with_reducible refine gate_callee (f := 32) rfl ?_); refine goesL_ (some 23) rfl rfl Try.func32 (by kernel_rfl) rfl #[.int .i64 a0] rfl (by (try simp only [List.map_toArray, List.map_cons, List.map_nil]); first | done | rfl | (simp only [List.length_drop, List.length_take]; rfl)) ?_; (with_reducible refine (computusref03_Digits.calls kj7 a0 t186 _ A14.out).mono ?_); rintro e w15 ⟨rfl, hb⟩; refine ⟨_, rfl, ?_⟩; have n0_ := Aside0.mk (below_step (by repeat (first | (with_reducible first | exact HB.out | apply below_alloc | apply pw_below_drewN | apply below_drew1) | exact HB.out)) hb); clear HB; have HB := n0_; clear n0_; (try clear hb); (try clear hb2); (try clear hk); (try clear hi)))
              go_ret
              exact ⟨by first | rfl | (simp [errW_none, errW_some] <;> rfl) | (simp [*, errW_none, errW_some] <;> rfl), by repeat (first | (with_reducible first | exact HB.out | apply below_alloc | apply pw_below_drewN | apply below_drew1) | exact HB.out)⟩

/-! ### computusref03_Offset: function 25 -/
mutual
def computusref03_Offset.j0 : Nat → Int → Bool → Option (ByteArray × Int)
  | 0, _, _ => none
  | k + 1, x0, x10 => if x10 = true then (some ((⟨#[]⟩ : ByteArray), 10)) else (if x0 < 0 then (computusref03_Offset.j1 k (wrap64 (-x0)) (⟨#[45]⟩ : ByteArray)) else (computusref03_Offset.j1 k x0 (⟨#[43]⟩ : ByteArray)))
def computusref03_Offset.j1 : Nat → Int → ByteArray → Option (ByteArray × Int)
  | 0, _, _ => none
  | k + 1, x0, x4 => (computusref03_Two.f k (wrap64 (Int.tdiv x0 3600))).bind fun t187 => (if x4.size + t187.size ≤ 9223372036854775807 then (if (Int.tmod x0 3600) = 0 then (if (Int.tmod x0 60) = 0 then (some (x4 ++ t187, 0)) else (if (x4 ++ t187).size + 1 ≤ 9223372036854775807 then ((computusref03_Two.f k (Int.tmod x0 60)).bind fun t188 => (if ((x4 ++ t187) ++ (⟨#[58]⟩ : ByteArray)).size + t188.size ≤ 9223372036854775807 then (some (((x4 ++ t187) ++ (⟨#[58]⟩ : ByteArray)) ++ t188, 0)) else (none))) else (none))) else (if (x4 ++ t187).size + 1 ≤ 9223372036854775807 then ((computusref03_Two.f k (Int.tmod (wrap64 (Int.tdiv x0 60)) 60)).bind fun t189 => (if ((x4 ++ t187) ++ (⟨#[58]⟩ : ByteArray)).size + t189.size ≤ 9223372036854775807 then (if (Int.tmod x0 60) = 0 then (some (((x4 ++ t187) ++ (⟨#[58]⟩ : ByteArray)) ++ t189, 0)) else (if (((x4 ++ t187) ++ (⟨#[58]⟩ : ByteArray)) ++ t189).size + 1 ≤ 9223372036854775807 then ((computusref03_Two.f k (Int.tmod x0 60)).bind fun t190 => (if ((((x4 ++ t187) ++ (⟨#[58]⟩ : ByteArray)) ++ t189) ++ (⟨#[58]⟩ : ByteArray)).size + t190.size ≤ 9223372036854775807 then (some (((((x4 ++ t187) ++ (⟨#[58]⟩ : ByteArray)) ++ t189) ++ (⟨#[58]⟩ : ByteArray)) ++ t190, 0)) else (none))) else (none))) else (none))) else (none))) else (none))
end
def computusref03_Offset.f (k : Nat) (a0 : Int) : Option (ByteArray × Int) := if a0 < (-57599) then (computusref03_Offset.j0 k a0 true) else (computusref03_Offset.j0 k a0 (decide (a0 > 57599)))
theorem computusref03_Offset.mono_l : ∀ k, (∀ y0 y1, LeO (computusref03_Offset.j0 k y0 y1) (computusref03_Offset.j0 (k + 1) y0 y1)) ∧ (∀ y0 y1, LeO (computusref03_Offset.j1 k y0 y1) (computusref03_Offset.j1 (k + 1) y0 y1))
  | 0 => ⟨fun _ _ r h => by simp [computusref03_Offset.j0] at h, fun _ _ r h => by simp [computusref03_Offset.j1] at h⟩
  | k + 1 => by
    obtain ⟨ih0, ih1⟩ := computusref03_Offset.mono_l k
    refine ⟨?_, ?_⟩
    · intro y0 y1
      unfold computusref03_Offset.j0
      repeat' first
      | (with_reducible exact ih0 _ _)
      | (with_reducible exact ih1 _ _)
      | (with_reducible exact computusref03_Two.mono _ _)
      | (with_reducible exact LeO.refl _)
      | (with_reducible exact LeO.none _)
      | (with_reducible refine LeO.ite ?_ ?_)
      | (with_reducible refine LeO.bind ?_ (fun _ => ?_))
      | exact ih0 _ _
      | exact ih1 _ _
      | exact computusref03_Two.mono _ _
      | exact LeO.none _
      | refine LeO.ite ?_ ?_
      | refine LeO.bind ?_ (fun _ => ?_)
    · intro y0 y1
      unfold computusref03_Offset.j1
      repeat' first
      | (with_reducible exact ih0 _ _)
      | (with_reducible exact ih1 _ _)
      | (with_reducible exact computusref03_Two.mono _ _)
      | (with_reducible exact LeO.refl _)
      | (with_reducible exact LeO.none _)
      | (with_reducible refine LeO.ite ?_ ?_)
      | (with_reducible refine LeO.bind ?_ (fun _ => ?_))
      | exact ih0 _ _
      | exact ih1 _ _
      | exact computusref03_Two.mono _ _
      | exact LeO.none _
      | refine LeO.ite ?_ ?_
      | refine LeO.bind ?_ (fun _ => ?_)
theorem computusref03_Offset.mono : ∀ a0 k, LeO (computusref03_Offset.f k a0) (computusref03_Offset.f (k + 1) a0) := by
  intro a0 k
  obtain ⟨ih0, ih1⟩ := computusref03_Offset.mono_l k
  unfold computusref03_Offset.f
  repeat' first
      | (with_reducible exact ih0 _ _)
      | (with_reducible exact ih1 _ _)
      | (with_reducible exact computusref03_Two.mono _ _)
      | (with_reducible exact LeO.refl _)
      | (with_reducible exact LeO.none _)
      | (with_reducible refine LeO.ite ?_ ?_)
      | (with_reducible refine LeO.bind ?_ (fun _ => ?_))
      | exact ih0 _ _
      | exact ih1 _ _
      | exact computusref03_Two.mono _ _
      | exact LeO.none _
      | refine LeO.ite ?_ ?_
      | refine LeO.bind ?_ (fun _ => ?_)
set_option maxHeartbeats 8000000 in
set_option maxRecDepth 100000 in
theorem computusref03_Offset.calls (k : Nat) (a0 : Int) (r1 : ByteArray) (r2 : Int) (w : World) (h : computusref03_Offset.f k a0 = some (r1, r2)) :
    Calls Try.prog 25 #[.int .i64 a0] w fun e w' => e = .returned (.tuple #[.string r1, .int .i64 r2]) ∧ Below w.heap.size w w' := by
  have HB := Aside0.mk (Below.refl w.heap.size w)
  have H : (if a0 < (-57599) then (computusref03_Offset.j0 k a0 true) else (computusref03_Offset.j0 k a0 (decide (a0 > 57599)))) = some (r1, r2) := h
  clear h
  have HC2 := Aside0.mk H
  clear H
  go_enter Try.func25, Try.ntmps25
  go_upto_region 1 with (fail)
  go_cut [10] (fun v10 wc => ∃ (kq : Nat) (x10_1 : Bool), v10 = .bool x10_1 ∧ Aside0 (computusref03_Offset.j0 kq a0 x10_1 = some (r1, r2)) ∧ Aside0 (kq ≤ k) ∧ Aside0 (Below w.heap.size w wc))
  case first =>
    have H := HC2.out
    clear HC2
    by_cases c3 : a0 < (-57599)
    · rw [if_pos c3] at H
      have c3b0 : decide (a0 < (-57599)) = true := decide_eq_true c3
      clear c3
      (first | rw [c3b0] | (simp only [i64_w, i32_w]; rw [c3b0]) | skip)
      have H' := Aside0.mk H
      clear H
      go_wp2
      go_meet
      case rel => exact ⟨_, (true), (by first | rfl | (simp; done) | (simp [*]; done)), H', ⟨by first | omega | exact Nat.le_refl _⟩, ⟨by repeat (first | (with_reducible first | exact HB.out | apply below_alloc | apply pw_below_drewN | apply below_drew1) | exact HB.out)⟩⟩
    · rw [if_neg c3] at H
      have c3b0 : decide (a0 < (-57599)) = false := decide_eq_false c3
      clear c3
      (first | rw [c3b0] | (simp only [i64_w, i32_w]; rw [c3b0]) | skip)
      have H' := Aside0.mk H
      clear H
      go_wp2
      go_meet
      case rel => exact ⟨_, (decide (a0 > 57599)), (by first | rfl | (simp; done) | (simp [*]; done)), H', ⟨by first | omega | exact Nat.le_refl _⟩, ⟨by repeat (first | (with_reducible first | exact HB.out | apply below_alloc | apply pw_below_drewN | apply below_drew1) | exact HB.out)⟩⟩
  case rest =>
    clear HC2
    try clear c2
    try clear p2
    try clear c3
    try clear c3b0
    obtain ⟨kq, x10_1, rfl, HA, HJ1, HB⟩ := hcut
    cases kq with
    | zero => exact absurd HA.out (by simp [computusref03_Offset.j0])
    | succ kj1 =>
      have H := HA.out
      clear HA
      simp only [computusref03_Offset.j0] at H
      by_cases c4 : x10_1 = true
      · subst c4
        have H1 : (some ((⟨#[]⟩ : ByteArray), 10)) = some (r1, r2) := by rw [if_pos rfl] at H; exact H
        clear H
        have H := H1
        clear H1
        simp only [Option.some.injEq, Prod.mk.injEq] at H
        obtain ⟨rfl, rfl⟩ := H
        go_wp2
        go_ret2
        exact ⟨by first | rfl | (simp [errW_none, errW_some] <;> rfl) | (simp [*, errW_none, errW_some] <;> rfl), by repeat (first | (with_reducible first | exact HB.out | apply below_alloc | apply pw_below_drewN | apply below_drew1) | exact HB.out)⟩
      · replace c4 := Bool.eq_false_iff.mpr c4
        subst c4
        have H1 : (if a0 < 0 then (computusref03_Offset.j1 kj1 (wrap64 (-a0)) (⟨#[45]⟩ : ByteArray)) else (computusref03_Offset.j1 kj1 a0 (⟨#[43]⟩ : ByteArray))) = some (r1, r2) := by rw [if_neg (show ¬ (false = true) by decide)] at H; exact H
        clear H
        have H := H1
        clear H1
        have HC5 := Aside0.mk H
        clear H
        go_upto_if 12 with (fail)
        go_cut [0, 4] (fun v0 v4 wc => ∃ (kq : Nat) (x0_4 : Int) (x4_4 : ByteArray), v0 = .int .i64 x0_4 ∧ v4 = .string x4_4 ∧ Aside0 (computusref03_Offset.j1 kq x0_4 x4_4 = some (r1, r2)) ∧ Aside0 (kq ≤ kj1) ∧ Aside0 (Below w.heap.size w wc))
        case first =>
          have H := HC5.out
          clear HC5
          by_cases c6 : a0 < 0
          · rw [if_pos c6] at H
            have c6b0 : decide (a0 < 0) = true := decide_eq_true c6
            clear c6
            (first | rw [c6b0] | (simp only [i64_w, i32_w]; rw [c6b0]) | skip)
            have H' := Aside0.mk H
            clear H
            go_wp2
            go_meet
            case rel => exact ⟨_, (wrap64 (-a0)), ((⟨#[45]⟩ : ByteArray)), (by first | rfl | (simp; done) | (simp [*]; done)), (by first | rfl | (simp; done) | (simp [*]; done)), H', ⟨by have := HJ1.out; first | omega | exact Nat.le_refl _⟩, ⟨by repeat (first | (with_reducible first | exact HB.out | apply below_alloc | apply pw_below_drewN | apply below_drew1) | exact HB.out)⟩⟩
          · rw [if_neg c6] at H
            have c6b0 : decide (a0 < 0) = false := decide_eq_false c6
            clear c6
            (first | rw [c6b0] | (simp only [i64_w, i32_w]; rw [c6b0]) | skip)
            have H' := Aside0.mk H
            clear H
            go_wp2
            go_meet
            case rel => exact ⟨_, (a0), ((⟨#[43]⟩ : ByteArray)), (by first | rfl | (simp; done) | (simp [*]; done)), (by first | rfl | (simp; done) | (simp [*]; done)), H', ⟨by have := HJ1.out; first | omega | exact Nat.le_refl _⟩, ⟨by repeat (first | (with_reducible first | exact HB.out | apply below_alloc | apply pw_below_drewN | apply below_drew1) | exact HB.out)⟩⟩
        case rest =>
          clear HC5
          try clear c2
          try clear p2
          try clear c3
          try clear c3b0
          try clear c4
          try clear c6
          try clear c6b0
          try clear p6
          try clear p2
          obtain ⟨kq, x0_4, x4_4, rfl, rfl, HA, HJ4, HB⟩ := hcut
          cases kq with
          | zero => exact absurd HA.out (by simp [computusref03_Offset.j1])
          | succ kj4 =>
            have H := HA.out
            clear HA
            simp only [computusref03_Offset.j1] at H
            replace H := Option.bind_eq_some_iff.mp H
            obtain ⟨t187, A70, H⟩ := H
            replace H : (if x4_4.size + t187.size ≤ 9223372036854775807 then (if (Int.tmod x0_4 3600) = 0 then (if (Int.tmod x0_4 60) = 0 then (some (x4_4 ++ t187, 0)) else (if (x4_4 ++ t187).size + 1 ≤ 9223372036854775807 then ((computusref03_Two.f kj4 (Int.tmod x0_4 60)).bind fun t188 => (if ((x4_4 ++ t187) ++ (⟨#[58]⟩ : ByteArray)).size + t188.size ≤ 9223372036854775807 then (some (((x4_4 ++ t187) ++ (⟨#[58]⟩ : ByteArray)) ++ t188, 0)) else (none))) else (none))) else (if (x4_4 ++ t187).size + 1 ≤ 9223372036854775807 then ((computusref03_Two.f kj4 (Int.tmod (wrap64 (Int.tdiv x0_4 60)) 60)).bind fun t189 => (if ((x4_4 ++ t187) ++ (⟨#[58]⟩ : ByteArray)).size + t189.size ≤ 9223372036854775807 then (if (Int.tmod x0_4 60) = 0 then (some (((x4_4 ++ t187) ++ (⟨#[58]⟩ : ByteArray)) ++ t189, 0)) else (if (((x4_4 ++ t187) ++ (⟨#[58]⟩ : ByteArray)) ++ t189).size + 1 ≤ 9223372036854775807 then ((computusref03_Two.f kj4 (Int.tmod x0_4 60)).bind fun t190 => (if ((((x4_4 ++ t187) ++ (⟨#[58]⟩ : ByteArray)) ++ t189) ++ (⟨#[58]⟩ : ByteArray)).size + t190.size ≤ 9223372036854775807 then (some (((((x4_4 ++ t187) ++ (⟨#[58]⟩ : ByteArray)) ++ t189) ++ (⟨#[58]⟩ : ByteArray)) ++ t190, 0)) else (none))) else (none))) else (none))) else (none))) else (none)) = some (r1, r2) := H
            have A7 := Aside0.mk A70
            clear A70
            by_cases c8 : x4_4.size + t187.size ≤ 9223372036854775807
            · rw [if_pos c8] at H
              have c8b0 := eq_true c8
              have c8b1 : decide (x4_4.size + t187.size ≤ 9223372036854775807) = true := decide_eq_true c8
              try have c8b2 : (9223372036854775807 < x4_4.size + t187.size) = False := eq_false (Nat.not_lt.2 c8)
              by_cases c9 : (Int.tmod x0_4 3600) = 0
              · rw [if_pos c9] at H
                have c9b0 : ((Int.tmod x0_4 3600) == 0) = true := beq_iff_eq.mpr c9
                have c9b1 : ((Int.tmod x0_4 3600) != 0) = false := bne_eq_false_iff_eq.mpr c9
                clear c9
                by_cases c10 : (Int.tmod x0_4 60) = 0
                · rw [if_pos c10] at H
                  have c10b0 : ((Int.tmod x0_4 60) == 0) = true := beq_iff_eq.mpr c10
                  have c10b1 : ((Int.tmod x0_4 60) != 0) = false := bne_eq_false_iff_eq.mpr c10
                  clear c10
                  simp only [Option.some.injEq, Prod.mk.injEq] at H
                  obtain ⟨rfl, rfl⟩ := H
                  go_wp2_with (first | ((with_reducible refine gate_callee (f := 12) rfl ?_); refine goesL_ (some 18) rfl rfl Try.func12 (by kernel_rfl) rfl #[.int .i64 (wrap64 (Int.tdiv x0_4 3600))] rfl (by (try simp only [List.map_toArray, List.map_cons, List.map_nil]); first | done | rfl | (simp only [List.length_drop, List.length_take]; rfl)) ?_; (with_reducible refine (computusref03_Two.calls kj4 (wrap64 (Int.tdiv x0_4 3600)) t187 _ A7.out).mono ?_); rintro e w11 ⟨rfl, hb⟩; refine ⟨_, rfl, ?_⟩; have n0_ := Aside0.mk (below_step (by repeat (first | (with_reducible first | exact HB.out | apply below_alloc | apply pw_below_drewN | apply below_drew1) | exact HB.out)) hb); clear HB; have HB := n0_; clear n0_; (try clear hb); (try clear hb2); (try clear hk); (try clear hi)))
                  go_ret2
                  exact ⟨by first | rfl | (simp [errW_none, errW_some] <;> rfl) | (simp [*, errW_none, errW_some] <;> rfl), by repeat (first | (with_reducible first | exact HB.out | apply below_alloc | apply pw_below_drewN | apply below_drew1) | exact HB.out)⟩
                · rw [if_neg c10] at H
                  have c10b0 : ((Int.tmod x0_4 60) == 0) = false := beq_eq_false_iff_ne.mpr c10
                  have c10b1 : ((Int.tmod x0_4 60) != 0) = true := bne_iff_ne.mpr c10
                  by_cases c12 : (x4_4 ++ t187).size + 1 ≤ 9223372036854775807
                  · rw [if_pos c12] at H
                    have c12h : ∀ W, (Op.stringOp .add (x4_4 ++ t187) (⟨#[58]⟩ : ByteArray)).run Try.prog W = .ok (.string ((x4_4 ++ t187) ++ (⟨#[58]⟩ : ByteArray))) W := fun W => run_string_add_sum W _ _ c12


                    replace H := Option.bind_eq_some_iff.mp H
                    obtain ⟨t188, A130, H⟩ := H
                    replace H : (if ((x4_4 ++ t187) ++ (⟨#[58]⟩ : ByteArray)).size + t188.size ≤ 9223372036854775807 then (some (((x4_4 ++ t187) ++ (⟨#[58]⟩ : ByteArray)) ++ t188, 0)) else (none)) = some (r1, r2) := H
                    have A13 := Aside0.mk A130
                    clear A130
                    by_cases c14 : ((x4_4 ++ t187) ++ (⟨#[58]⟩ : ByteArray)).size + t188.size ≤ 9223372036854775807
                    · rw [if_pos c14] at H
                      have c14h : ∀ W, (Op.stringOp .add ((x4_4 ++ t187) ++ (⟨#[58]⟩ : ByteArray)) t188).run Try.prog W = .ok (.string (((x4_4 ++ t187) ++ (⟨#[58]⟩ : ByteArray)) ++ t188)) W := fun W => run_string_add_sum W _ _ c14


                      simp only [Option.some.injEq, Prod.mk.injEq] at H
                      obtain ⟨rfl, rfl⟩ := H
                      go_wp2_with (first | ((with_reducible refine gate_callee (f := 12) rfl ?_); refine goesL_ (some 18) rfl rfl Try.func12 (by kernel_rfl) rfl #[.int .i64 (wrap64 (Int.tdiv x0_4 3600))] rfl (by (try simp only [List.map_toArray, List.map_cons, List.map_nil]); first | done | rfl | (simp only [List.length_drop, List.length_take]; rfl)) ?_; (with_reducible refine (computusref03_Two.calls kj4 (wrap64 (Int.tdiv x0_4 3600)) t187 _ A7.out).mono ?_); rintro e w15 ⟨rfl, hb⟩; refine ⟨_, rfl, ?_⟩; have n0_ := Aside0.mk (below_step (by repeat (first | (with_reducible first | exact HB.out | apply below_alloc | apply pw_below_drewN | apply below_drew1) | exact HB.out)) hb); clear HB; have HB := n0_; clear n0_; (try clear hb); (try clear hb2); (try clear hk); (try clear hi)) | ((with_reducible refine gate_callee (f := 12) rfl ?_); refine goesL_ (some 37) rfl rfl Try.func12 (by kernel_rfl) rfl #[.int .i64 (Int.tmod x0_4 60)] rfl (by (try simp only [List.map_toArray, List.map_cons, List.map_nil]); first | done | rfl | (simp only [List.length_drop, List.length_take]; rfl)) ?_; (with_reducible refine (computusref03_Two.calls kj4 (Int.tmod x0_4 60) t188 _ A13.out).mono ?_); rintro e w16 ⟨rfl, hb⟩; refine ⟨_, rfl, ?_⟩; have n0_ := Aside0.mk (below_step (by repeat (first | (with_reducible first | exact HB.out | apply below_alloc | apply pw_below_drewN | apply below_drew1) | exact HB.out)) hb); clear HB; have HB := n0_; clear n0_; (try clear hb); (try clear hb2); (try clear hk); (try clear hi)))
                      go_ret2
                      exact ⟨by first | rfl | (simp [errW_none, errW_some] <;> rfl) | (simp [*, errW_none, errW_some] <;> rfl), by repeat (first | (with_reducible first | exact HB.out | apply below_alloc | apply pw_below_drewN | apply below_drew1) | exact HB.out)⟩
                    · rw [if_neg c14] at H
                      exact absurd H (by simp)
                  · rw [if_neg c12] at H
                    exact absurd H (by simp)
              · rw [if_neg c9] at H
                have c9b0 : ((Int.tmod x0_4 3600) == 0) = false := beq_eq_false_iff_ne.mpr c9
                have c9b1 : ((Int.tmod x0_4 3600) != 0) = true := bne_iff_ne.mpr c9
                by_cases c17 : (x4_4 ++ t187).size + 1 ≤ 9223372036854775807
                · rw [if_pos c17] at H
                  have c17h : ∀ W, (Op.stringOp .add (x4_4 ++ t187) (⟨#[58]⟩ : ByteArray)).run Try.prog W = .ok (.string ((x4_4 ++ t187) ++ (⟨#[58]⟩ : ByteArray))) W := fun W => run_string_add_sum W _ _ c17


                  replace H := Option.bind_eq_some_iff.mp H
                  obtain ⟨t189, A180, H⟩ := H
                  replace H : (if ((x4_4 ++ t187) ++ (⟨#[58]⟩ : ByteArray)).size + t189.size ≤ 9223372036854775807 then (if (Int.tmod x0_4 60) = 0 then (some (((x4_4 ++ t187) ++ (⟨#[58]⟩ : ByteArray)) ++ t189, 0)) else (if (((x4_4 ++ t187) ++ (⟨#[58]⟩ : ByteArray)) ++ t189).size + 1 ≤ 9223372036854775807 then ((computusref03_Two.f kj4 (Int.tmod x0_4 60)).bind fun t190 => (if ((((x4_4 ++ t187) ++ (⟨#[58]⟩ : ByteArray)) ++ t189) ++ (⟨#[58]⟩ : ByteArray)).size + t190.size ≤ 9223372036854775807 then (some (((((x4_4 ++ t187) ++ (⟨#[58]⟩ : ByteArray)) ++ t189) ++ (⟨#[58]⟩ : ByteArray)) ++ t190, 0)) else (none))) else (none))) else (none)) = some (r1, r2) := H
                  have A18 := Aside0.mk A180
                  clear A180
                  by_cases c19 : ((x4_4 ++ t187) ++ (⟨#[58]⟩ : ByteArray)).size + t189.size ≤ 9223372036854775807
                  · rw [if_pos c19] at H
                    have c19h : ∀ W, (Op.stringOp .add ((x4_4 ++ t187) ++ (⟨#[58]⟩ : ByteArray)) t189).run Try.prog W = .ok (.string (((x4_4 ++ t187) ++ (⟨#[58]⟩ : ByteArray)) ++ t189)) W := fun W => run_string_add_sum W _ _ c19


                    by_cases c20 : (Int.tmod x0_4 60) = 0
                    · rw [if_pos c20] at H
                      have c20b0 : ((Int.tmod x0_4 60) == 0) = true := beq_iff_eq.mpr c20
                      have c20b1 : ((Int.tmod x0_4 60) != 0) = false := bne_eq_false_iff_eq.mpr c20
                      clear c20
                      simp only [Option.some.injEq, Prod.mk.injEq] at H
                      obtain ⟨rfl, rfl⟩ := H
                      go_wp2_with (first | ((with_reducible refine gate_callee (f := 12) rfl ?_); refine goesL_ (some 18) rfl rfl Try.func12 (by kernel_rfl) rfl #[.int .i64 (wrap64 (Int.tdiv x0_4 3600))] rfl (by (try simp only [List.map_toArray, List.map_cons, List.map_nil]); first | done | rfl | (simp only [List.length_drop, List.length_take]; rfl)) ?_; (with_reducible refine (computusref03_Two.calls kj4 (wrap64 (Int.tdiv x0_4 3600)) t187 _ A7.out).mono ?_); rintro e w21 ⟨rfl, hb⟩; refine ⟨_, rfl, ?_⟩; have n0_ := Aside0.mk (below_step (by repeat (first | (with_reducible first | exact HB.out | apply below_alloc | apply pw_below_drewN | apply below_drew1) | exact HB.out)) hb); clear HB; have HB := n0_; clear n0_; (try clear hb); (try clear hb2); (try clear hk); (try clear hi)) | ((with_reducible refine gate_callee (f := 12) rfl ?_); refine goesL_ (some 28) rfl rfl Try.func12 (by kernel_rfl) rfl #[.int .i64 (Int.tmod (wrap64 (Int.tdiv x0_4 60)) 60)] rfl (by (try simp only [List.map_toArray, List.map_cons, List.map_nil]); first | done | rfl | (simp only [List.length_drop, List.length_take]; rfl)) ?_; (with_reducible refine (computusref03_Two.calls kj4 (Int.tmod (wrap64 (Int.tdiv x0_4 60)) 60) t189 _ A18.out).mono ?_); rintro e w22 ⟨rfl, hb⟩; refine ⟨_, rfl, ?_⟩; have n0_ := Aside0.mk (below_step (by repeat (first | (with_reducible first | exact HB.out | apply below_alloc | apply pw_below_drewN | apply below_drew1) | exact HB.out)) hb); clear HB; have HB := n0_; clear n0_; (try clear hb); (try clear hb2); (try clear hk); (try clear hi)))
                      go_ret2
                      exact ⟨by first | rfl | (simp [errW_none, errW_some] <;> rfl) | (simp [*, errW_none, errW_some] <;> rfl), by repeat (first | (with_reducible first | exact HB.out | apply below_alloc | apply pw_below_drewN | apply below_drew1) | exact HB.out)⟩
                    · rw [if_neg c20] at H
                      have c20b0 : ((Int.tmod x0_4 60) == 0) = false := beq_eq_false_iff_ne.mpr c20
                      have c20b1 : ((Int.tmod x0_4 60) != 0) = true := bne_iff_ne.mpr c20
                      by_cases c23 : (((x4_4 ++ t187) ++ (⟨#[58]⟩ : ByteArray)) ++ t189).size + 1 ≤ 9223372036854775807
                      · rw [if_pos c23] at H
                        have c23h : ∀ W, (Op.stringOp .add (((x4_4 ++ t187) ++ (⟨#[58]⟩ : ByteArray)) ++ t189) (⟨#[58]⟩ : ByteArray)).run Try.prog W = .ok (.string ((((x4_4 ++ t187) ++ (⟨#[58]⟩ : ByteArray)) ++ t189) ++ (⟨#[58]⟩ : ByteArray))) W := fun W => run_string_add_sum W _ _ c23


                        replace H := Option.bind_eq_some_iff.mp H
                        obtain ⟨t190, A240, H⟩ := H
                        replace H : (if ((((x4_4 ++ t187) ++ (⟨#[58]⟩ : ByteArray)) ++ t189) ++ (⟨#[58]⟩ : ByteArray)).size + t190.size ≤ 9223372036854775807 then (some (((((x4_4 ++ t187) ++ (⟨#[58]⟩ : ByteArray)) ++ t189) ++ (⟨#[58]⟩ : ByteArray)) ++ t190, 0)) else (none)) = some (r1, r2) := H
                        have A24 := Aside0.mk A240
                        clear A240
                        by_cases c25 : ((((x4_4 ++ t187) ++ (⟨#[58]⟩ : ByteArray)) ++ t189) ++ (⟨#[58]⟩ : ByteArray)).size + t190.size ≤ 9223372036854775807
                        · rw [if_pos c25] at H
                          have c25h : ∀ W, (Op.stringOp .add ((((x4_4 ++ t187) ++ (⟨#[58]⟩ : ByteArray)) ++ t189) ++ (⟨#[58]⟩ : ByteArray)) t190).run Try.prog W = .ok (.string (((((x4_4 ++ t187) ++ (⟨#[58]⟩ : ByteArray)) ++ t189) ++ (⟨#[58]⟩ : ByteArray)) ++ t190)) W := fun W => run_string_add_sum W _ _ c25


                          simp only [Option.some.injEq, Prod.mk.injEq] at H
                          obtain ⟨rfl, rfl⟩ := H
                          go_wp2_with (first | ((with_reducible refine gate_callee (f := 12) rfl ?_); refine goesL_ (some 18) rfl rfl Try.func12 (by kernel_rfl) rfl #[.int .i64 (wrap64 (Int.tdiv x0_4 3600))] rfl (by (try simp only [List.map_toArray, List.map_cons, List.map_nil]); first | done | rfl | (simp only [List.length_drop, List.length_take]; rfl)) ?_; (with_reducible refine (computusref03_Two.calls kj4 (wrap64 (Int.tdiv x0_4 3600)) t187 _ A7.out).mono ?_); rintro e w26 ⟨rfl, hb⟩; refine ⟨_, rfl, ?_⟩; have n0_ := Aside0.mk (below_step (by repeat (first | (with_reducible first | exact HB.out | apply below_alloc | apply pw_below_drewN | apply below_drew1) | exact HB.out)) hb); clear HB; have HB := n0_; clear n0_; (try clear hb); (try clear hb2); (try clear hk); (try clear hi)) | ((with_reducible refine gate_callee (f := 12) rfl ?_); refine goesL_ (some 28) rfl rfl Try.func12 (by kernel_rfl) rfl #[.int .i64 (Int.tmod (wrap64 (Int.tdiv x0_4 60)) 60)] rfl (by (try simp only [List.map_toArray, List.map_cons, List.map_nil]); first | done | rfl | (simp only [List.length_drop, List.length_take]; rfl)) ?_; (with_reducible refine (computusref03_Two.calls kj4 (Int.tmod (wrap64 (Int.tdiv x0_4 60)) 60) t189 _ A18.out).mono ?_); rintro e w27 ⟨rfl, hb⟩; refine ⟨_, rfl, ?_⟩; have n0_ := Aside0.mk (below_step (by repeat (first | (with_reducible first | exact HB.out | apply below_alloc | apply pw_below_drewN | apply below_drew1) | exact HB.out)) hb); clear HB; have HB := n0_; clear n0_; (try clear hb); (try clear hb2); (try clear hk); (try clear hi)) | ((with_reducible refine gate_callee (f := 12) rfl ?_); refine goesL_ (some 37) rfl rfl Try.func12 (by kernel_rfl) rfl #[.int .i64 (Int.tmod x0_4 60)] rfl (by (try simp only [List.map_toArray, List.map_cons, List.map_nil]); first | done | rfl | (simp only [List.length_drop, List.length_take]; rfl)) ?_; (with_reducible refine (computusref03_Two.calls kj4 (Int.tmod x0_4 60) t190 _ A24.out).mono ?_); rintro e w28 ⟨rfl, hb⟩; refine ⟨_, rfl, ?_⟩; have n0_ := Aside0.mk (below_step (by repeat (first | (with_reducible first | exact HB.out | apply below_alloc | apply pw_below_drewN | apply below_drew1) | exact HB.out)) hb); clear HB; have HB := n0_; clear n0_; (try clear hb); (try clear hb2); (try clear hk); (try clear hi)))
                          go_ret2
                          exact ⟨by first | rfl | (simp [errW_none, errW_some] <;> rfl) | (simp [*, errW_none, errW_some] <;> rfl), by repeat (first | (with_reducible first | exact HB.out | apply below_alloc | apply pw_below_drewN | apply below_drew1) | exact HB.out)⟩
                        · rw [if_neg c25] at H
                          exact absurd H (by simp)
                      · rw [if_neg c23] at H
                        exact absurd H (by simp)
                  · rw [if_neg c19] at H
                    exact absurd H (by simp)
                · rw [if_neg c17] at H
                  exact absurd H (by simp)
            · rw [if_neg c8] at H
              exact absurd H (by simp)

end Go.Proofs.Ytecijnjnhdjokaa.PClockF
