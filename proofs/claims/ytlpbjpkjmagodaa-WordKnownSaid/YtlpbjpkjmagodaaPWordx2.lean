-- Written by a program of this session (mkprint.py, over the kit's print), out of the translation and of the contracts that the session gives.
import Derived.Test.YtlpbjpkjmagodaaPWordx0
namespace Go.Proofs.Ytlpbjpkjmagodaa.PWord
open Go.RowKit Go.Proofs.YtlpbjpkjmagodaaW.PrintWords Go.Proofs.YtlpbjpkjmagodaaW.PrintLast Go.Proofs.YtlpbjpkjmagodaaW.PrintMore
attribute [local go_sem] max2_int min2_int max_two min_two max_three min_three max_four min_four   -- for this text's walks alone
set_option linter.unusedVariables false
set_option linter.unusedSimpArgs false

/-! ### word_kind: function 28 -/
mutual
def word_kind.j1 : Nat → Int → Option (Int)
  | 0, _ => none
  | k + 1, x0 => if x0 = 32 then (some 0) else (if x0 = 9 then (some 0) else (if x0 = 10 then (some 0) else (if x0 = 13 then (some 0) else (if x0 < 32 then (some 4) else (if x0 = 127 then (some 4) else (some 3))))))
def word_kind.j0 : Nat → Int → Bool → Option (Int)
  | 0, _, _ => none
  | k + 1, x0, x3 => if x3 = true then (some 1) else (if x0 = 95 then (some 2) else (if x0 > 127 then (some 2) else (if (Go.bits .or .i32 x0 32) ≥ 97 then (if (Go.bits .or .i32 x0 32) ≤ 122 then (some 2) else (word_kind.j1 k x0)) else (word_kind.j1 k x0))))
end
def word_kind.f (k : Nat) (a0 : Int) : Option (Int) := if a0 ≥ 48 then (word_kind.j0 k a0 (decide (a0 ≤ 57))) else (word_kind.j0 k a0 false)
theorem word_kind.mono_l : ∀ k, (∀ y0, LeO (word_kind.j1 k y0) (word_kind.j1 (k + 1) y0)) ∧ (∀ y0 y1, LeO (word_kind.j0 k y0 y1) (word_kind.j0 (k + 1) y0 y1))
  | 0 => ⟨fun _ r h => by simp [word_kind.j1] at h, fun _ _ r h => by simp [word_kind.j0] at h⟩
  | k + 1 => by
    obtain ⟨ih0, ih1⟩ := word_kind.mono_l k
    refine ⟨?_, ?_⟩
    · intro y0
      unfold word_kind.j1
      repeat' first
      | (with_reducible exact ih0 _)
      | (with_reducible exact ih1 _ _)
      | (with_reducible exact LeO.refl _)
      | (with_reducible exact LeO.none _)
      | (with_reducible refine LeO.ite ?_ ?_)
      | (with_reducible refine LeO.bind ?_ (fun _ => ?_))
      | exact ih0 _
      | exact ih1 _ _
      | exact LeO.none _
      | refine LeO.ite ?_ ?_
      | refine LeO.bind ?_ (fun _ => ?_)
    · intro y0 y1
      unfold word_kind.j0
      repeat' first
      | (with_reducible exact ih0 _)
      | (with_reducible exact ih1 _ _)
      | (with_reducible exact LeO.refl _)
      | (with_reducible exact LeO.none _)
      | (with_reducible refine LeO.ite ?_ ?_)
      | (with_reducible refine LeO.bind ?_ (fun _ => ?_))
      | exact ih0 _
      | exact ih1 _ _
      | exact LeO.none _
      | refine LeO.ite ?_ ?_
      | refine LeO.bind ?_ (fun _ => ?_)
theorem word_kind.mono : ∀ a0 k, LeO (word_kind.f k a0) (word_kind.f (k + 1) a0) := by
  intro a0 k
  obtain ⟨ih0, ih1⟩ := word_kind.mono_l k
  unfold word_kind.f
  repeat' first
      | (with_reducible exact ih0 _)
      | (with_reducible exact ih1 _ _)
      | (with_reducible exact LeO.refl _)
      | (with_reducible exact LeO.none _)
      | (with_reducible refine LeO.ite ?_ ?_)
      | (with_reducible refine LeO.bind ?_ (fun _ => ?_))
      | exact ih0 _
      | exact ih1 _ _
      | exact LeO.none _
      | refine LeO.ite ?_ ?_
      | refine LeO.bind ?_ (fun _ => ?_)
set_option maxHeartbeats 8000000 in
set_option maxRecDepth 100000 in
theorem word_kind.calls (k : Nat) (a0 : Int) (r : Int) (w : World) (h : word_kind.f k a0 = some r) :
    Calls Try.prog 28 #[.int .i32 a0] w fun e w' => e = .returned (.int .i64 r) ∧ Drawn0 w w' := by
  have H : (if a0 ≥ 48 then (word_kind.j0 k a0 (decide (a0 ≤ 57))) else (word_kind.j0 k a0 false)) = some r := h
  clear h
  have HC2 := Aside0.mk H
  clear H
  go_enter Try.func28, Try.ntmps28
  go_upto_block 0 with (fail)
  go_cut [] (fun wc => ∃ (kq : Nat), Aside0 (word_kind.j1 kq a0 = some r) ∧ Aside0 (kq ≤ k) ∧ Drawn0 w wc)
  case first =>
    have H := HC2.out
    clear HC2
    have HC3 := Aside0.mk H
    clear H
    go_upto_region 1 with (fail)
    go_cut [3] (fun v3 wc => ∃ (kq : Nat) (x3_2 : Bool), v3 = .bool x3_2 ∧ Aside0 (word_kind.j0 kq a0 x3_2 = some r) ∧ Aside0 (kq ≤ k) ∧ Drawn0 w wc)
    case first =>
      have H := HC3.out
      clear HC3
      by_cases c4 : a0 ≥ 48
      · rw [if_pos c4] at H
        have c4b0 : decide (48 ≤ a0) = true := decide_eq_true c4
        clear c4
        (first | rw [c4b0] | (simp only [i64_w, i32_w]; rw [c4b0]) | skip)
        have H' := Aside0.mk H
        clear H
        go_wp2
        go_meet
        case rel => exact ⟨_, (decide (a0 ≤ 57)), (by first | rfl | (simp; done) | (simp [*]; done)), H', ⟨by first | omega | exact Nat.le_refl _⟩, by repeat (first | exact Drawn0.refl _ | apply Drawn0.step)⟩
      · rw [if_neg c4] at H
        have c4b0 : decide (48 ≤ a0) = false := decide_eq_false c4
        clear c4
        (first | rw [c4b0] | (simp only [i64_w, i32_w]; rw [c4b0]) | skip)
        have H' := Aside0.mk H
        clear H
        go_wp2
        go_meet
        case rel => exact ⟨_, (false), (by first | rfl | (simp; done) | (simp [*]; done)), H', ⟨by first | omega | exact Nat.le_refl _⟩, by repeat (first | exact Drawn0.refl _ | apply Drawn0.step)⟩
    case rest =>
      clear HC3
      try clear c2
      try clear p2
      try clear c4
      try clear c4b0
      obtain ⟨kq, x3_2, rfl, HA, HJ2, ⟨mc2, rfl⟩⟩ := hcut
      cases kq with
      | zero => exact absurd HA.out (by simp [word_kind.j0])
      | succ kj2 =>
        have H := HA.out
        clear HA
        simp only [word_kind.j0] at H
        by_cases c5 : x3_2 = true
        · subst c5
          have H1 : (some 1) = some r := by rw [if_pos rfl] at H; exact H
          clear H
          have H := H1
          clear H1
          obtain rfl := Option.some.inj H
          go_wp2
          go_ret
          exact ⟨by first | rfl | (simp; done) | (simp [*]; done), by repeat (first | exact Drawn0.refl _ | apply Drawn0.step)⟩
        · replace c5 := Bool.eq_false_iff.mpr c5
          subst c5
          have H1 : (if a0 = 95 then (some 2) else (if a0 > 127 then (some 2) else (if (Go.bits .or .i32 a0 32) ≥ 97 then (if (Go.bits .or .i32 a0 32) ≤ 122 then (some 2) else (word_kind.j1 kj2 a0)) else (word_kind.j1 kj2 a0)))) = some r := by rw [if_neg (show ¬ (false = true) by decide)] at H; exact H
          clear H
          have H := H1
          clear H1
          by_cases c6 : a0 = 95
          · rw [if_pos c6] at H
            have c6b0 : (a0 == 95) = true := beq_iff_eq.mpr c6
            have c6b1 : (a0 != 95) = false := bne_eq_false_iff_eq.mpr c6
            clear c6
            obtain rfl := Option.some.inj H
            go_wp2
            go_ret
            exact ⟨by first | rfl | (simp; done) | (simp [*]; done), by repeat (first | exact Drawn0.refl _ | apply Drawn0.step)⟩
          · rw [if_neg c6] at H
            have c6b0 : (a0 == 95) = false := beq_eq_false_iff_ne.mpr c6
            have c6b1 : (a0 != 95) = true := bne_iff_ne.mpr c6
            by_cases c7 : a0 > 127
            · rw [if_pos c7] at H
              have c7b0 : decide (127 < a0) = true := decide_eq_true c7
              clear c7
              obtain rfl := Option.some.inj H
              go_wp2
              go_ret
              exact ⟨by first | rfl | (simp; done) | (simp [*]; done), by repeat (first | exact Drawn0.refl _ | apply Drawn0.step)⟩
            · rw [if_neg c7] at H
              have c7b0 : decide (127 < a0) = false := decide_eq_false c7
              clear c7
              by_cases c8 : (Go.bits .or .i32 a0 32) ≥ 97
              · rw [if_pos c8] at H
                have c8b0 : decide (97 ≤ (Go.bits .or .i32 a0 32)) = true := decide_eq_true c8
                clear c8
                by_cases c9 : (Go.bits .or .i32 a0 32) ≤ 122
                · rw [if_pos c9] at H
                  have c9b0 : decide ((Go.bits .or .i32 a0 32) ≤ 122) = true := decide_eq_true c9
                  clear c9
                  obtain rfl := Option.some.inj H
                  go_wp2
                  go_ret
                  exact ⟨by first | rfl | (simp; done) | (simp [*]; done), by repeat (first | exact Drawn0.refl _ | apply Drawn0.step)⟩
                · rw [if_neg c9] at H
                  have c9b0 : decide ((Go.bits .or .i32 a0 32) ≤ 122) = false := decide_eq_false c9
                  clear c9
                  have H' := Aside0.mk H
                  clear H
                  go_wp2
                  go_meet
                  case rel => exact ⟨_, H', ⟨by have := HJ2.out; first | omega | exact Nat.le_refl _⟩, by repeat (first | exact Drawn0.refl _ | apply Drawn0.step)⟩
              · rw [if_neg c8] at H
                have c8b0 : decide (97 ≤ (Go.bits .or .i32 a0 32)) = false := decide_eq_false c8
                clear c8
                have H' := Aside0.mk H
                clear H
                go_wp2
                go_meet
                case rel => exact ⟨_, H', ⟨by have := HJ2.out; first | omega | exact Nat.le_refl _⟩, by repeat (first | exact Drawn0.refl _ | apply Drawn0.step)⟩
  case rest =>
    clear HC2
    try clear c2
    try clear p2
    try clear c4
    try clear c4b0
    try clear c5
    try clear c6
    try clear c6b0
    try clear c6b1
    try clear c7
    try clear c7b0
    try clear c8
    try clear c8b0
    try clear c9
    try clear c9b0
    try clear p2
    obtain ⟨kq, HA, HJ1, ⟨mc1, rfl⟩⟩ := hcut
    cases kq with
    | zero => exact absurd HA.out (by simp [word_kind.j1])
    | succ kj1 =>
      have H := HA.out
      clear HA
      simp only [word_kind.j1] at H
      by_cases c10 : a0 = 32
      · rw [if_pos c10] at H
        have c10b0 : (a0 == 32) = true := beq_iff_eq.mpr c10
        have c10b1 : (a0 != 32) = false := bne_eq_false_iff_eq.mpr c10
        clear c10
        obtain rfl := Option.some.inj H
        go_wp2
        go_ret
        exact ⟨by first | rfl | (simp; done) | (simp [*]; done), by repeat (first | exact Drawn0.refl _ | apply Drawn0.step)⟩
      · rw [if_neg c10] at H
        have c10b0 : (a0 == 32) = false := beq_eq_false_iff_ne.mpr c10
        have c10b1 : (a0 != 32) = true := bne_iff_ne.mpr c10
        by_cases c11 : a0 = 9
        · rw [if_pos c11] at H
          have c11b0 : (a0 == 9) = true := beq_iff_eq.mpr c11
          have c11b1 : (a0 != 9) = false := bne_eq_false_iff_eq.mpr c11
          clear c11
          obtain rfl := Option.some.inj H
          go_wp2
          go_ret
          exact ⟨by first | rfl | (simp; done) | (simp [*]; done), by repeat (first | exact Drawn0.refl _ | apply Drawn0.step)⟩
        · rw [if_neg c11] at H
          have c11b0 : (a0 == 9) = false := beq_eq_false_iff_ne.mpr c11
          have c11b1 : (a0 != 9) = true := bne_iff_ne.mpr c11
          by_cases c12 : a0 = 10
          · rw [if_pos c12] at H
            have c12b0 : (a0 == 10) = true := beq_iff_eq.mpr c12
            have c12b1 : (a0 != 10) = false := bne_eq_false_iff_eq.mpr c12
            clear c12
            obtain rfl := Option.some.inj H
            go_wp2
            go_ret
            exact ⟨by first | rfl | (simp; done) | (simp [*]; done), by repeat (first | exact Drawn0.refl _ | apply Drawn0.step)⟩
          · rw [if_neg c12] at H
            have c12b0 : (a0 == 10) = false := beq_eq_false_iff_ne.mpr c12
            have c12b1 : (a0 != 10) = true := bne_iff_ne.mpr c12
            by_cases c13 : a0 = 13
            · rw [if_pos c13] at H
              have c13b0 : (a0 == 13) = true := beq_iff_eq.mpr c13
              have c13b1 : (a0 != 13) = false := bne_eq_false_iff_eq.mpr c13
              clear c13
              obtain rfl := Option.some.inj H
              go_wp2
              go_ret
              exact ⟨by first | rfl | (simp; done) | (simp [*]; done), by repeat (first | exact Drawn0.refl _ | apply Drawn0.step)⟩
            · rw [if_neg c13] at H
              have c13b0 : (a0 == 13) = false := beq_eq_false_iff_ne.mpr c13
              have c13b1 : (a0 != 13) = true := bne_iff_ne.mpr c13
              by_cases c14 : a0 < 32
              · rw [if_pos c14] at H
                have c14b0 : decide (a0 < 32) = true := decide_eq_true c14
                clear c14
                obtain rfl := Option.some.inj H
                go_wp2
                go_ret
                exact ⟨by first | rfl | (simp; done) | (simp [*]; done), by repeat (first | exact Drawn0.refl _ | apply Drawn0.step)⟩
              · rw [if_neg c14] at H
                have c14b0 : decide (a0 < 32) = false := decide_eq_false c14
                clear c14
                by_cases c15 : a0 = 127
                · rw [if_pos c15] at H
                  have c15b0 : (a0 == 127) = true := beq_iff_eq.mpr c15
                  have c15b1 : (a0 != 127) = false := bne_eq_false_iff_eq.mpr c15
                  clear c15
                  obtain rfl := Option.some.inj H
                  go_wp2
                  go_ret
                  exact ⟨by first | rfl | (simp; done) | (simp [*]; done), by repeat (first | exact Drawn0.refl _ | apply Drawn0.step)⟩
                · rw [if_neg c15] at H
                  have c15b0 : (a0 == 127) = false := beq_eq_false_iff_ne.mpr c15
                  have c15b1 : (a0 != 127) = true := bne_iff_ne.mpr c15
                  obtain rfl := Option.some.inj H
                  go_wp2
                  go_ret
                  exact ⟨by first | rfl | (simp; done) | (simp [*]; done), by repeat (first | exact Drawn0.refl _ | apply Drawn0.step)⟩

/-! ### stringslite_HasPrefix: function 42 -/
def stringslite_HasPrefix.f (a0 : ByteArray) (a1 : ByteArray) : Option (Bool) := if (a0.size : Int) ≥ (a1.size : Int) then (if 0 ≤ (a1.size : Int) then (if (a1.size : Int) ≤ (a0.size : Int) then (some ((a0.extract 0 ((a1.size : Int) : Int).toNat).toList == a1.toList)) else (none)) else (none)) else (some false)
set_option maxHeartbeats 8000000 in
set_option maxRecDepth 100000 in
theorem stringslite_HasPrefix.calls (a0 : ByteArray) (a1 : ByteArray) (r : Bool) (w : World) (h : stringslite_HasPrefix.f a0 a1 = some r) :
    Calls Try.prog 42 #[.string a0, .string a1] w fun e w' => e = .returned (.bool r) ∧ Drawn0 w w' := by
  have H : (if (a0.size : Int) ≥ (a1.size : Int) then (if 0 ≤ (a1.size : Int) then (if (a1.size : Int) ≤ (a0.size : Int) then (some ((a0.extract 0 ((a1.size : Int) : Int).toNat).toList == a1.toList)) else (none)) else (none)) else (some false)) = some r := h
  clear h
  by_cases c3 : (a0.size : Int) ≥ (a1.size : Int)
  · rw [if_pos c3] at H
    have c3b0 : decide ((a1.size : Int) ≤ (a0.size : Int)) = true := decide_eq_true c3
    have c3b1 : decide (a1.size ≤ a0.size) = true := decide_eq_true (Int.ofNat_le.mp c3)
    clear c3
    by_cases c4 : 0 ≤ (a1.size : Int)
    · rw [if_pos c4] at H
      have c4b0 := eq_true c4
      have c4b1 : decide (0 ≤ (a1.size : Int)) = true := decide_eq_true c4
      clear c4
      by_cases c5 : (a1.size : Int) ≤ (a0.size : Int)
      · rw [if_pos c5] at H
        have c5b0 := eq_true c5
        have c5b1 : decide ((a1.size : Int) ≤ (a0.size : Int)) = true := decide_eq_true c5
        clear c5
        obtain rfl := Option.some.inj H
        go_enter Try.func42, Try.ntmps42
        go_wp2
        go_ret
        exact ⟨by first | rfl | (simp; done) | (simp [*]; done), by repeat (first | exact Drawn0.refl _ | apply Drawn0.step)⟩
      · rw [if_neg c5] at H
        exact absurd H (by simp)
    · rw [if_neg c4] at H
      exact absurd H (by simp)
  · rw [if_neg c3] at H
    have c3b0 : decide ((a1.size : Int) ≤ (a0.size : Int)) = false := decide_eq_false c3
    have c3b1 : decide (a1.size ≤ a0.size) = false := decide_eq_false (fun h => c3 (Int.ofNat_le.mpr h))
    clear c3
    obtain rfl := Option.some.inj H
    go_enter Try.func42, Try.ntmps42
    go_wp2
    go_ret
    exact ⟨by first | rfl | (simp; done) | (simp [*]; done), by repeat (first | exact Drawn0.refl _ | apply Drawn0.step)⟩

/-! ### strings_HasPrefix: function 39 -/
def strings_HasPrefix.f (a0 : ByteArray) (a1 : ByteArray) : Option (Bool) := (stringslite_HasPrefix.f a0 a1).bind fun t101 => (some t101)
set_option maxHeartbeats 8000000 in
set_option maxRecDepth 100000 in
theorem strings_HasPrefix.calls (a0 : ByteArray) (a1 : ByteArray) (r : Bool) (w : World) (h : strings_HasPrefix.f a0 a1 = some r) :
    Calls Try.prog 39 #[.string a0, .string a1] w fun e w' => e = .returned (.bool r) ∧ Drawn0 w w' := by
  have H : ((stringslite_HasPrefix.f a0 a1).bind fun t101 => (some t101)) = some r := h
  clear h
  replace H := Option.bind_eq_some_iff.mp H
  obtain ⟨t101, A30, H⟩ := H
  replace H : (some t101) = some r := H
  have A3 := Aside0.mk A30
  clear A30
  obtain rfl := Option.some.inj H
  go_enter Try.func39, Try.ntmps39
  go_wp2_with (first | ((with_reducible refine gate_callee (f := 42) rfl ?_); refine goesL_ (some 7) rfl rfl Try.func42 (by kernel_rfl) rfl #[.string a0, .string a1] rfl (by (try simp only [List.map_toArray, List.map_cons, List.map_nil]); first | done | rfl | (simp only [List.length_drop, List.length_take]; rfl)) ?_; (with_reducible refine (stringslite_HasPrefix.calls a0 a1 t101 _ A3.out).mono ?_); rintro e w' ⟨rfl, ⟨nd, rfl⟩⟩; refine ⟨_, rfl, ?_⟩))
  go_ret
  exact ⟨by first | rfl | (simp; done) | (simp [*]; done), by repeat (first | exact Drawn0.refl _ | apply Drawn0.step)⟩

/-! ### word_whole: function 29 -/
def word_whole.f (a0 : ByteArray) (a1 : Int) : Option (Bool) := if 0 ≤ a1 then (if a1 ≤ (a0.size : Int) then ((strings_HasPrefix.f (a0.extract (a1 : Int).toNat a0.size) (⟨#[239, 191, 189]⟩ : ByteArray)).bind fun t102 => (some t102)) else (none)) else (none)
set_option maxHeartbeats 8000000 in
set_option maxRecDepth 100000 in
theorem word_whole.calls (a0 : ByteArray) (a1 : Int) (r : Bool) (w : World) (h : word_whole.f a0 a1 = some r) :
    Calls Try.prog 29 #[.string a0, .int .i64 a1] w fun e w' => e = .returned (.bool r) ∧ Drawn0 w w' := by
  have H : (if 0 ≤ a1 then (if a1 ≤ (a0.size : Int) then ((strings_HasPrefix.f (a0.extract (a1 : Int).toNat a0.size) (⟨#[239, 191, 189]⟩ : ByteArray)).bind fun t102 => (some t102)) else (none)) else (none)) = some r := h
  clear h
  by_cases c3 : 0 ≤ a1
  · rw [if_pos c3] at H
    have c3b0 := eq_true c3
    have c3b1 : decide (0 ≤ a1) = true := decide_eq_true c3
    clear c3
    by_cases c4 : a1 ≤ (a0.size : Int)
    · rw [if_pos c4] at H
      have c4b0 := eq_true c4
      have c4b1 : decide (a1 ≤ (a0.size : Int)) = true := decide_eq_true c4
      clear c4
      replace H := Option.bind_eq_some_iff.mp H
      obtain ⟨t102, A50, H⟩ := H
      replace H : (some t102) = some r := H
      have A5 := Aside0.mk A50
      clear A50
      obtain rfl := Option.some.inj H
      go_enter Try.func29, Try.ntmps29
      go_wp2_with (first | ((with_reducible refine gate_callee (f := 39) rfl ?_); refine goesL_ (some 8) rfl rfl Try.func39 (by kernel_rfl) rfl #[.string (a0.extract (a1 : Int).toNat a0.size), .string (⟨#[239, 191, 189]⟩ : ByteArray)] rfl (by (try simp only [List.map_toArray, List.map_cons, List.map_nil]); first | done | rfl | (simp only [List.length_drop, List.length_take]; rfl)) ?_; (with_reducible refine (strings_HasPrefix.calls (a0.extract (a1 : Int).toNat a0.size) (⟨#[239, 191, 189]⟩ : ByteArray) t102 _ A5.out).mono ?_); rintro e w' ⟨rfl, ⟨nd, rfl⟩⟩; refine ⟨_, rfl, ?_⟩))
      go_ret
      exact ⟨by first | rfl | (simp; done) | (simp [*]; done), by repeat (first | exact Drawn0.refl _ | apply Drawn0.step)⟩
    · rw [if_neg c4] at H
      exact absurd H (by simp)
  · rw [if_neg c3] at H
    exact absurd H (by simp)

/-! ### word_Split: function 9 -/
/-- What a rune is: 0 a blank, 1 a digit, 2 a letter, 3 a sign, 4 broken. -/
def kindR (c : Int) : Int := if 48 ≤ c ∧ c ≤ 57 then 1 else if c = 95 ∨ 127 < c ∨ (65 ≤ c ∧ c ≤ 90) ∨ (97 ≤ c ∧ c ≤ 122) then 2 else if c = 32 ∨ c = 9 ∨ c = 10 ∨ c = 13 then 0 else if c < 32 ∨ c = 127 then 4 else 3
/-- Is U+FFFD really there. -/
def wholeAt (s : ByteArray) (pos : Nat) : Bool := if 3 ≤ (s.extract pos s.size).size then ((s.extract pos s.size).extract 0 3).toList == (⟨#[239, 191, 189]⟩ : ByteArray).toList else false
/-- The last part. -/
def lastP (l : List S34) : S34 := rd_T34 l ((l.length : Int) - 1)
/-- 'word.Split', from a place on. -/
def spLoop (s : ByteArray) : Nat → List S34 → Int → Nat → Option (List S34 × Int × Int)
  | 0, _, _, _ => none
  | d + 1, l, last, pos =>
    if pos < s.size then
      (if kindR (Utf8.decode s pos).1 = 4 then some ([], (pos : Int), 21)
      else if ((Utf8.decode s pos).1 : Int) = 65533 ∧ wholeAt s pos = false then some ([], (pos : Int), 21)
      else if kindR (Utf8.decode s pos).1 = 0 then spLoop s d l 0 (pos + (Utf8.decode s pos).2)
      else if kindR (Utf8.decode s pos).1 = last ∧ kindR (Utf8.decode s pos).1 ≠ 3 then
        (if l.length = 0 then none
        else if (lastP l).f1.size + (Utf8.encode (Utf8.decode s pos).1).size ≤ 9223372036854775807 then
          spLoop s d (l.set (l.length - 1) ⟨(lastP l).f0, (lastP l).f1 ++ Utf8.encode (Utf8.decode s pos).1, (lastP l).f2⟩) (kindR (Utf8.decode s pos).1) (pos + (Utf8.decode s pos).2)
        else none)
      else spLoop s d (l ++ [⟨kindR (Utf8.decode s pos).1, Utf8.encode (Utf8.decode s pos).1, (pos : Int)⟩]) (kindR (Utf8.decode s pos).1) (pos + (Utf8.decode s pos).2))
    else some (l, 0, 0)
/-- 'word.Split'. -/
def word_Split.f (a0 : ByteArray) : Option ((List (S34)) × Int × Int) := if a0.size > 2048 then some ([], 0, 3) else spLoop a0 (a0.size + 1) [] 0 0
theorem kind_tab : ∀ c : Fin 128, word_kind.f 3 (c.val : Int) = some (kindR (c.val : Int)) := by decide +kernel
theorem word_kind.eq (c : Nat) : word_kind.f 3 (c : Int) = some (kindR c) := by
  by_cases h : c < 128
  · exact kind_tab ⟨c, h⟩
  · unfold word_kind.f kindR
    rw [if_pos (by omega)]
    simp only [word_kind.j0]
    rw [if_neg (by simp; omega), if_neg (by omega), if_pos (by omega), if_neg (by omega), if_pos (by omega)]
theorem kindR_range (c : Int) : 0 ≤ kindR c ∧ kindR c ≤ 4 := by
  unfold kindR
  repeat' split
  all_goals omega
theorem word_whole.eq (s : ByteArray) (pos : Nat) (h : pos ≤ s.size) : word_whole.f s (pos : Int) = some (wholeAt s pos) := by
  unfold word_whole.f
  rw [if_pos (by omega), if_pos (by omega), Int.toNat_natCast]
  unfold strings_HasPrefix.f stringslite_HasPrefix.f wholeAt
  have e : ((⟨#[239, 191, 189]⟩ : ByteArray).size : Int) = 3 := rfl
  simp only [e]
  by_cases h3 : 3 ≤ (s.extract pos s.size).size
  · rw [if_pos (by omega), if_pos (by omega), if_pos (by omega), if_pos h3]
    rfl
  · rw [if_neg (by omega), if_neg h3]
    rfl
theorem decode_width (s : ByteArray) (pos : Nat) (h : pos < s.size) : 1 ≤ (Utf8.decode s pos).2 := by
  by_cases ha : (s[pos]'h).toNat < 128
  · rw [decode_ascii s pos h ha]
    exact Nat.le_refl _
  · exact (decode_high s pos h (by omega)).2
theorem decode_end (s : ByteArray) (pos : Nat) (h : pos < s.size) : pos + (Utf8.decode s pos).2 ≤ s.size := by
  simp only [Utf8.decode]
  repeat' split
  all_goals simp_all
  all_goals omega
theorem split_iter {ok : Nat → Prop} {base k pos pos' : Nat} {s : ByteArray} {w : World} {v : Value} {l : List S34} (h : Kd.R k34 34 w base ok v l) (hok : ∀ j, ok j → j ≠ k) : Kd.R k34 34 (w.iterAt k s pos') base ok v l :=
  Kd.R_step h (fun j hj _ => Lib.iterAt_other w k j s pos' (hok j hj))
theorem split_grown {ok : Nat → Prop} {base k pos : Nat} {s : ByteArray} {w w1 : World} {v : Value} {l : List S34} (h : Kd.R k34 34 w base ok v l) (hok : ∀ j, ok j → j ≠ k) (hg : w.grownBy w1 v.ownBlock) (hi : w.heap[k]? = some (.stringIter s pos)) : w1.heap[k]? = some (.stringIter s pos) := by
  rw [hg.block k (Array.getElem?_eq_some_iff.1 hi).1 (fun e => hok k (h.1 k e.symm) rfl)]
  exact hi
theorem split_open {ok : Nat → Prop} {base : Nat} {w : World} {v : Value} {l : List S34} (h : Kd.R k34 34 w base ok v l) (hn : l.length ≠ 0) : ∃ g cap, v = .slice (some ⟨g, 0, none⟩) l.length cap ∧ base ≤ g := by
  obtain ⟨inner, ho⟩ := Kd.R_own h
  rcases ho.2 with ⟨_, h0⟩ | ⟨g, cap, cur, hv, hg, _⟩
  · exact absurd h0 hn
  · exact ⟨g, cap, hv, hg⟩
theorem split_free {ok : Nat → Prop} {base g cap : Nat} {w : World} {l : List S34} (h : Kd.R k34 34 w base ok (.slice (some ⟨g, 0, none⟩) l.length cap) l) (hn : l.length ≠ 0) (j : Nat) : w.frozen? ⟨g, j, none⟩ = false := by
  obtain ⟨inner, ho⟩ := Kd.R_own h
  rcases ho.2 with ⟨_, h0⟩ | ⟨g', cap', cur, hv, hg, hh, _⟩
  · exact absurd h0 hn
  · injection hv with h1 h2 h3
    injection h1 with h1
    injection h1 with h1
    subst h1
    simp [World.frozen?, hh]
theorem k34_mkM' (w : World) (base : Nat) (ok : Nat → Prop) (a : Int) (e : ByteArray) (b : Int) : k34.M w base ok ⟨a, e, b⟩ [.int .i64 a, .string e, .int .i64 b] := k34_mkM w base ok ⟨a, e, b⟩
def SplitInv (s : ByteArray) (r : List S34 × Int × Int) (w : World) (kq : Nat) (v5 : Value) (last : Int) (w' : World) : Prop :=
  ∃ (l : List S34) (pos : Nat), pos ≤ s.size ∧ l.length ≤ pos ∧ spLoop s kq l last pos = some r ∧ Kd.R k34 34 w' w.heap.size (fun k => k ≠ w.heap.size) v5 l ∧ w'.heap[w.heap.size]? = some (.stringIter s pos) ∧ Below w.heap.size w w'
set_option maxHeartbeats 2000000 in
set_option maxRecDepth 100000 in
theorem word_Split.calls (a0 : ByteArray) (r1 : List (S34)) (r2 : Int) (r3 : Int) (w : World) (h : word_Split.f a0 = some (r1, r2, r3)) :
    Calls Try.prog 9 #[.string a0] w fun e w' => ∃ v0_ : Value, e = .returned (.tuple #[v0_, .int .i64 r2, .int .i64 r3]) ∧ Kd.R k34 34 w' w.heap.size (fun _ => True) v0_ r1 ∧ Below w.heap.size w w' := by
  have hu34 := Try.underlying34
  unfold word_Split.f at h
  by_cases c2 : a0.size > 2048
  · rw [if_pos c2] at h
    have c2b0 : decide (2048 < (a0.size : Int)) = true := decide_eq_true (by omega)
    have c2b1 : decide (2048 < a0.size) = true := decide_eq_true (by omega)
    clear c2
    simp only [Option.some.injEq, Prod.mk.injEq] at h
    obtain ⟨rfl, rfl, rfl⟩ := h
    go_enter Try.func9, Try.ntmps9
    go_wp2
    go_ret3
    exact ⟨_, rfl, Kd.R_nil _ _ _ _ _, Below.refl _ _⟩
  · rw [if_neg c2] at h
    have c2b0 : decide (2048 < (a0.size : Int)) = false := decide_eq_false (by omega)
    have c2b1 : decide (2048 < a0.size) = false := decide_eq_false (by omega)
    have HS := Aside0.mk (show a0.size ≤ 2048 by omega)
    clear c2
    have H := Aside0.mk h
    clear h
    go_enter Try.func9, Try.ntmps9
    go_wp2
    go_loopg [5, 6] (a0.size + 1) (fun kq v5 v6 w' => ∃ last : Int, v6 = .int .i64 last ∧ Aside0 (SplitInv a0 (r1, r2, r3) w kq v5 last w'))
    case atStart =>
      refine ⟨0, rfl, ⟨[], 0, Nat.zero_le _, Nat.zero_le _, H.out, Kd.R_nil _ _ _ _ _, World.iter_heap w a0 0, (Below.refl _ w).alloc (Nat.le_refl _) _⟩⟩
    case round =>
      clear H c2b0 c2b1
      obtain ⟨last, rfl, HI⟩ := hrel
      obtain ⟨l, pos, hpos, hl, hA, hR, hit, hB⟩ := HI.out
      clear HI
      cases gk with
      | zero => exact absurd hA (by simp [spLoop])
      | succ k1 =>
        simp only [spLoop] at hA
        try clear HA
        by_cases hp : pos < a0.size
        · rw [if_pos hp] at hA
          have hnx : ∀ ty, (Instr.next (.pointer (some ⟨w.heap.size, 0, none⟩)) true ty).run Try.prog wr = _ := fun ty => Lib.run_next_any_at wr w.heap.size a0 pos ty hit hp
          have hwd := decode_width a0 pos hp
          have hdl := decode_le a0 pos
          have HR := Aside0.mk (split_iter (pos := pos) (pos' := pos + (Utf8.decode a0 pos).2) (s := a0) hR (fun _ hj => hj))
          have HIT := Aside0.mk (Lib.iterAt_heap wr w.heap.size a0 pos (pos + (Utf8.decode a0 pos).2) hit)
          have HB := Aside0.mk (Lib.below_iterAt hB (k := w.heap.size) (Nat.le_refl _) a0 (pos + (Utf8.decode a0 pos).2))
          have HP := Aside0.mk (show pos + (Utf8.decode a0 pos).2 ≤ a0.size from decode_end a0 pos hp)
          have HL := Aside0.mk hl
          have HW := Aside0.mk hwd
          have HPo := Aside0.mk hpos
          clear hR hit hB hl hwd hpos hdl
          generalize (Utf8.decode a0 pos).1 = c at hA hnx
          have HV := Aside0.mk hA
          clear hA
          have hk := Aside0.mk (word_kind.eq c)
          have hw := Aside0.mk (word_whole.eq a0 pos HPo.out)
          have hkr := Aside0.mk (kindR_range (c : Int))
          have HC := Aside0.mk (show kindR 65533 = 2 by decide)
          generalize hkd : kindR (c : Int) = kd at HV hk hkr
          have HKD := Aside0.mk hkd
          clear hkd
          by_cases h4 : kd = 4
          · have A := HV.out
            rw [if_pos h4] at A
            obtain ⟨h41, h42⟩ := Prod.mk.inj (Option.some.inj A)
            obtain ⟨h42, h43⟩ := Prod.mk.inj h42
            have b4 : (kd == 4) = true := by simpa using h4
            have N1 := Aside0.mk h41
            have N2 := Aside0.mk h42
            have N3 := Aside0.mk h43
            clear h4 A h41 h42 h43
            go_wp2_with (go_at_call 28; refine (word_kind.calls 3 _ _ _ hk.out).mono ?_; rintro e w' ⟨rfl, ⟨nd, rfl⟩⟩)
            go_ret3
            exact ⟨_, by rw [← N2.out, ← N3.out]; rfl, by rw [← N1.out]; exact Kd.R_nil _ _ _ _ _, by repeat (first | exact HB.out | apply pw_below_drewN)⟩
          · have b4 : (kd == 4) = false := by simpa using h4
            by_cases hcw : (c : Int) = 65533 ∧ wholeAt a0 pos = false
            · have A := HV.out
              rw [if_neg h4, if_pos hcw] at A
              obtain ⟨h41, h42⟩ := Prod.mk.inj (Option.some.inj A)
              obtain ⟨h42, h43⟩ := Prod.mk.inj h42
              have N1 := Aside0.mk h41
              have N2 := Aside0.mk h42
              have N3 := Aside0.mk h43
              obtain ⟨hc, hw0⟩ := hcw
              have bc : ((c : Int) == 65533) = true := by simpa using hc
              have hw1 := hw.out
              rw [hw0] at hw1
              have HW1 := Aside0.mk hw1
              clear hw1 hw0 hc h4 A h41 h42 h43
              go_wp2_with (first | (go_at_call 28; refine (word_kind.calls 3 _ _ _ hk.out).mono ?_; rintro e w' ⟨rfl, ⟨nd, rfl⟩⟩) | (go_at_call 29; refine (word_whole.calls _ _ _ _ HW1.out).mono ?_; rintro e w' ⟨rfl, ⟨nd2, rfl⟩⟩))
              go_ret3
              exact ⟨_, by rw [← N2.out, ← N3.out]; rfl, by rw [← N1.out]; exact Kd.R_nil _ _ _ _ _, by repeat (first | exact HB.out | apply pw_below_drewN)⟩
            · have A2 := HV.out
              rw [if_neg h4, if_neg hcw] at A2
              have HV2 := Aside0.mk A2
              clear HV h4 A2
              have hcase : ((c : Int) = 65533 ∧ wholeAt a0 pos = true) ∨ ¬ (c : Int) = 65533 := by
                by_cases h1 : (c : Int) = 65533
                · exact .inl ⟨h1, by cases hz : wholeAt a0 pos with | true => rfl | false => exact absurd ⟨h1, hz⟩ hcw⟩
                · exact .inr h1
              clear hcw
              by_cases h0 : kd = 0
              · subst h0
                have HV3 := Aside0.mk (show spLoop a0 k1 l 0 (pos + (Utf8.decode a0 pos).2) = some (r1, r2, r3) from by have A := HV2.out; rw [if_pos rfl] at A; exact A)
                clear HV2
                rcases hcase with ⟨hc, hw0⟩ | hc
                · have bc : ((c : Int) == 65533) = true := by simpa using hc
                  have hw1 := hw.out
                  rw [hw0] at hw1
                  have HW1 := Aside0.mk hw1
                  clear hw1 hw0 hc
                  go_wp2_with (first | (go_at_call 28; refine (word_kind.calls 3 _ _ _ hk.out).mono ?_; rintro e w' ⟨rfl, ⟨nd, rfl⟩⟩) | (go_at_call 29; refine (word_whole.calls _ _ _ _ HW1.out).mono ?_; rintro e w' ⟨rfl, ⟨nd2, rfl⟩⟩))
                  go_roundg k1
                  case measure => omega
                  case rel => exact ⟨0, rfl, ⟨l, _, HP.out, by have := HL.out; omega, HV3.out, by repeat (first | exact HR.out | apply Kd.R_drewN), HIT.out, by repeat (first | exact HB.out | apply pw_below_drewN)⟩⟩
                · have bc : ((c : Int) == 65533) = false := by simpa using hc
                  clear hc
                  go_wp2_with (first | (go_at_call 28; refine (word_kind.calls 3 _ _ _ hk.out).mono ?_; rintro e w' ⟨rfl, ⟨nd, rfl⟩⟩))
                  go_roundg k1
                  case measure => omega
                  case rel => exact ⟨0, rfl, ⟨l, _, HP.out, by have := HL.out; omega, HV3.out, by repeat (first | exact HR.out | apply Kd.R_drewN), HIT.out, by repeat (first | exact HB.out | apply pw_below_drewN)⟩⟩
              · have b0 : (kd == 0) = false := by simpa using h0
                have A3 := HV2.out
                rw [if_neg h0] at A3
                clear HV2 h0
                by_cases hsm : kd = last ∧ kd ≠ 3
                · rw [if_pos hsm] at A3
                  by_cases hl0 : l.length = 0
                  · rw [if_pos hl0] at A3; cases A3
                  · rw [if_neg hl0] at A3
                    by_cases hbig : (lastP l).f1.size + (Utf8.encode c).size ≤ 9223372036854775807
                    · rw [if_pos hbig] at A3
                      obtain ⟨rfl, h3⟩ := hsm
                      have b3 : (kd == 3) = false := by simpa using h3
                      have b3n : (kd != 3) = true := by simpa using h3
                      obtain ⟨g, cap, hv, hg⟩ := split_open HR.out hl0
                      obtain ⟨j, hj⟩ : ∃ j, l.length = j + 1 := ⟨l.length - 1, by omega⟩
                      subst hv
                      obtain ⟨ad, ead, hx0, hx1, hx2⟩ := at_T34 (Kd.R_reads' HR.out).2.2 (j : Int) (by omega) (by omega)
                      have hfr := split_free HR.out hl0 (j * 3 + 1)
                      have hlp : lastP l = rd_T34 l (j : Int) := by unfold lastP; congr 1; omega
                      rw [hlp] at hbig A3
                      injection ead with ead
                      subst ead
                      rw [Int.toNat_natCast, Go.Proofs.YtlpbjpkjmagodaaW.PrintWords.add_plain] at hx0 hx1 hx2
                      have HG := Aside0.mk hg
                      have hRj := HR.out
                      rw [hj] at hRj
                      have HRJ := Aside0.mk hRj
                      have hjl : l.length - 1 = j := by omega
                      rw [hjl] at A3
                      clear hRj HR hjl
                      have HX0 := Aside0.mk hx0
                      have HX2 := Aside0.mk hx2
                      have HV3 := Aside0.mk A3
                      have HJ := Aside0.mk hj
                      have hj8 : j ≤ 2048 := by have h1 := HL.out; have h2 := HPo.out; have h3 := HS.out; omega
                      rw [hj]
                      clear A3 h3 hl0 hlp hx0 hx2 hg hj
                      have hcat : ∀ W, (Op.stringOp .add (rd_T34 l (j : Int)).f1 (Utf8.encode c)).run Try.prog W = .ok (.string ((rd_T34 l (j : Int)).f1 ++ Utf8.encode c)) W := fun W => run_string_add_sum W _ _ hbig
                      clear hbig
                      generalize rd_T34 l (j : Int) = q at hcat hx1 HV3 HX0 HX2
                      rcases hcase with ⟨hc, hw0⟩ | hc
                      · have bc : ((c : Int) == 65533) = true := by simpa using hc
                        have hw1 := hw.out
                        rw [hw0] at hw1
                        have HW1 := Aside0.mk hw1
                        clear hw1 hw0 hc
                        go_wp2_with (first | (go_at_call 28; refine (word_kind.calls 3 _ _ _ hk.out).mono ?_; rintro e w' ⟨rfl, ⟨nd, rfl⟩⟩) | (go_at_call 29; refine (word_whole.calls _ _ _ _ HW1.out).mono ?_; rintro e w' ⟨rfl, ⟨nd2, rfl⟩⟩))
                        have hcs : ∀ jj u, ([.int .i64 q.f0, .string q.f1, .int .i64 q.f2] : List Value)[jj]? = some u → (World.drewN (wr.iterAt w.heap.size a0 (pos + (Utf8.decode a0 pos).2)) (nd + nd2)).cell? ⟨g, ((j : Nat) : Int).toNat * k34.sz + jj, none⟩ = some u := by
                          intro jj u hu
                          rw [Int.toNat_natCast]
                          rcases jj with _ | _ | _ | jj
                          · obtain rfl := Option.some.inj hu; exact HX0.out
                          · obtain rfl := Option.some.inj hu; exact hx1
                          · obtain rfl := Option.some.inj hu; exact HX2.out
                          · cases hu
                        obtain ⟨hrow, hgr⟩ := Kd.R_seg (okp := fun _ => False) (seg := [.string (q.f1 ++ Utf8.encode c)]) (j := 1) (x' := (⟨q.f0, q.f1 ++ Utf8.encode c, q.f2⟩ : S34)) (c := [.int .i64 q.f0, .string q.f1, .int .i64 q.f2]) (Kd.R_drewN HRJ.out (nd + nd2)) ((j : Nat) : Int) (Int.natCast_nonneg _) (by omega) rfl hcs (by show 1 + 1 ≤ 3; decide) (k34_mkM' _ _ _ q.f0 (q.f1 ++ Utf8.encode c) q.f2) (fun _ hk => hk.elim)
                        rw [Int.toNat_natCast] at hrow hgr
                        have hrow2 := Aside0.mk hrow
                        have hit3 := Aside0.mk (split_grown (s := a0) (pos := pos + (Utf8.decode a0 pos).2) (k := w.heap.size) (Kd.R_drewN HRJ.out (nd + nd2)) (fun _ hj => hj) hgr HIT.out)
                        have hbel := Aside0.mk (Below.setCell (p := ⟨g, j * 3 + 1, none⟩) (pw_below_drewN HB.out (n := nd + nd2)) HG.out (.string (q.f1 ++ Utf8.encode c)))
                        go_roundg k1
                        case measure => omega
                        case rel => exact ⟨kd, rfl, ⟨_, _, HP.out, by rw [List.length_set]; have h1 := HL.out; have h2 := HW.out; omega, HV3.out, hrow2.out, hit3.out, hbel.out⟩⟩
                      · have bc : ((c : Int) == 65533) = false := by simpa using hc
                        clear hc
                        go_wp2_with (first | (go_at_call 28; refine (word_kind.calls 3 _ _ _ hk.out).mono ?_; rintro e w' ⟨rfl, ⟨nd, rfl⟩⟩))
                        have hcs : ∀ jj u, ([.int .i64 q.f0, .string q.f1, .int .i64 q.f2] : List Value)[jj]? = some u → (World.drewN (wr.iterAt w.heap.size a0 (pos + (Utf8.decode a0 pos).2)) nd).cell? ⟨g, ((j : Nat) : Int).toNat * k34.sz + jj, none⟩ = some u := by
                          intro jj u hu
                          rw [Int.toNat_natCast]
                          rcases jj with _ | _ | _ | jj
                          · obtain rfl := Option.some.inj hu; exact HX0.out
                          · obtain rfl := Option.some.inj hu; exact hx1
                          · obtain rfl := Option.some.inj hu; exact HX2.out
                          · cases hu
                        obtain ⟨hrow, hgr⟩ := Kd.R_seg (okp := fun _ => False) (seg := [.string (q.f1 ++ Utf8.encode c)]) (j := 1) (x' := (⟨q.f0, q.f1 ++ Utf8.encode c, q.f2⟩ : S34)) (c := [.int .i64 q.f0, .string q.f1, .int .i64 q.f2]) (Kd.R_drewN HRJ.out nd) ((j : Nat) : Int) (Int.natCast_nonneg _) (by omega) rfl hcs (by show 1 + 1 ≤ 3; decide) (k34_mkM' _ _ _ q.f0 (q.f1 ++ Utf8.encode c) q.f2) (fun _ hk => hk.elim)
                        rw [Int.toNat_natCast] at hrow hgr
                        have hrow2 := Aside0.mk hrow
                        have hit3 := Aside0.mk (split_grown (s := a0) (pos := pos + (Utf8.decode a0 pos).2) (k := w.heap.size) (Kd.R_drewN HRJ.out nd) (fun _ hj => hj) hgr HIT.out)
                        have hbel := Aside0.mk (Below.setCell (p := ⟨g, j * 3 + 1, none⟩) (pw_below_drewN HB.out (n := nd)) HG.out (.string (q.f1 ++ Utf8.encode c)))
                        go_roundg k1
                        case measure => omega
                        case rel => exact ⟨kd, rfl, ⟨_, _, HP.out, by rw [List.length_set]; have h1 := HL.out; have h2 := HW.out; omega, HV3.out, hrow2.out, hit3.out, hbel.out⟩⟩
                    · rw [if_neg hbig] at A3; cases A3
                · rw [if_neg hsm] at A3
                  have HV3 := Aside0.mk A3
                  clear A3
                  have hsplit : (kd == last) = false ∨ (kd = 3 ∧ last = 3) := by
                    by_cases h1 : kd = last
                    · have h3 : kd = 3 := by
                        by_cases h : kd = 3
                        · exact h
                        · exact absurd ⟨h1, h⟩ hsm
                      exact .inr ⟨h3, by rw [← h1]; exact h3⟩
                    · exact .inl (by simpa using h1)
                  clear hsm
                  rcases hsplit with bl | ⟨rfl, rfl⟩
                  · rcases hcase with ⟨hc, hw0⟩ | hc
                    · have bc : ((c : Int) == 65533) = true := by simpa using hc
                      have hw1 := hw.out
                      rw [hw0] at hw1
                      have HW1 := Aside0.mk hw1
                      clear hw1 hw0 hc
                      go_wp2_with (first | (go_at_call 28; refine (word_kind.calls 3 _ _ _ hk.out).mono ?_; rintro e w' ⟨rfl, ⟨nd, rfl⟩⟩) | (go_at_call 29; refine (word_whole.calls _ _ _ _ HW1.out).mono ?_; rintro e w' ⟨rfl, ⟨nd2, rfl⟩⟩) | ((with_reducible refine gate_builtin (b := .append) (xs := #[.tmp 37, .tmp 42]) rfl ?_); at_builtin; refine Kd.R_append k34 (w0 := w) w.heap.size rfl (.tmp 37) (.tmp 42) 22 34 (.agg #[(.int .i64 0), (.string ⟨#[]⟩), (.int .i64 0)]) 32 rfl Try.underlying22 info34 rfl (by decide) (by omega) u5 l (⟨kd, Utf8.encode c, (pos : Int)⟩ : S34) [.int .i64 kd, .string (Utf8.encode c), .int .i64 pos] (fun k => k ≠ w.heap.size) (fun _ => False) rfl rfl ?aP (fun _ hk => hk.elim) ?aF ?aO ?aB ?aS ?aL ?_; (case aP => exact k34_mkM' _ _ _ kd (Utf8.encode c) (pos : Int)); (case aF => exact fun k hk => by have h1 := (Array.getElem?_eq_some_iff.1 HIT.out).1; have h2 : (wr.iterAt w.heap.size a0 (pos + (Utf8.decode a0 pos).2)).heap.size ≤ k := hk; omega); (case aO => exact (by repeat (first | exact HR.out | apply Kd.R_drewN))); (case aB => exact (by repeat (first | exact HB.out | apply pw_below_drewN))); (case aS => exact (by repeat (first | exact HB.out | apply pw_below_drewN) : Below w.heap.size w _).size); (case aL => have h1 := HL.out; have h2 := HPo.out; have h3 := HS.out; omega); intro v1 w1 ho hb hg hat; have hi1 := Aside0.mk (split_grown (s := a0) (pos := pos + (Utf8.decode a0 pos).2) (k := w.heap.size) (by repeat (first | exact HR.out | apply Kd.R_drewN)) (fun _ hj => hj) hg HIT.out); have ho1 := Aside0.mk ho; have hb1 := Aside0.mk hb; clear ho hb hg hat))
                      go_roundg k1
                      case measure => omega
                      case rel => exact ⟨_, rfl, ⟨_, _, HP.out, by rw [List.length_append]; have h1 := HL.out; have h2 := HW.out; simp; omega, HV3.out, ho1.out, hi1.out, hb1.out⟩⟩
                    · have bc : ((c : Int) == 65533) = false := by simpa using hc
                      clear hc
                      go_wp2_with (first | (go_at_call 28; refine (word_kind.calls 3 _ _ _ hk.out).mono ?_; rintro e w' ⟨rfl, ⟨nd, rfl⟩⟩) | ((with_reducible refine gate_builtin (b := .append) (xs := #[.tmp 37, .tmp 42]) rfl ?_); at_builtin; refine Kd.R_append k34 (w0 := w) w.heap.size rfl (.tmp 37) (.tmp 42) 22 34 (.agg #[(.int .i64 0), (.string ⟨#[]⟩), (.int .i64 0)]) 32 rfl Try.underlying22 info34 rfl (by decide) (by omega) u5 l (⟨kd, Utf8.encode c, (pos : Int)⟩ : S34) [.int .i64 kd, .string (Utf8.encode c), .int .i64 pos] (fun k => k ≠ w.heap.size) (fun _ => False) rfl rfl ?aP (fun _ hk => hk.elim) ?aF ?aO ?aB ?aS ?aL ?_; (case aP => exact k34_mkM' _ _ _ kd (Utf8.encode c) (pos : Int)); (case aF => exact fun k hk => by have h1 := (Array.getElem?_eq_some_iff.1 HIT.out).1; have h2 : (wr.iterAt w.heap.size a0 (pos + (Utf8.decode a0 pos).2)).heap.size ≤ k := hk; omega); (case aO => exact (by repeat (first | exact HR.out | apply Kd.R_drewN))); (case aB => exact (by repeat (first | exact HB.out | apply pw_below_drewN))); (case aS => exact (by repeat (first | exact HB.out | apply pw_below_drewN) : Below w.heap.size w _).size); (case aL => have h1 := HL.out; have h2 := HPo.out; have h3 := HS.out; omega); intro v1 w1 ho hb hg hat; have hi1 := Aside0.mk (split_grown (s := a0) (pos := pos + (Utf8.decode a0 pos).2) (k := w.heap.size) (by repeat (first | exact HR.out | apply Kd.R_drewN)) (fun _ hj => hj) hg HIT.out); have ho1 := Aside0.mk ho; have hb1 := Aside0.mk hb; clear ho hb hg hat))
                      go_roundg k1
                      case measure => omega
                      case rel => exact ⟨_, rfl, ⟨_, _, HP.out, by rw [List.length_append]; have h1 := HL.out; have h2 := HW.out; simp; omega, HV3.out, ho1.out, hi1.out, hb1.out⟩⟩
                  · rcases hcase with ⟨hc, hw0⟩ | hc
                    · have bc : ((c : Int) == 65533) = true := by simpa using hc
                      have hw1 := hw.out
                      rw [hw0] at hw1
                      have HW1 := Aside0.mk hw1
                      clear hw1 hw0 hc
                      go_wp2_with (first | (go_at_call 28; refine (word_kind.calls 3 _ _ _ hk.out).mono ?_; rintro e w' ⟨rfl, ⟨nd, rfl⟩⟩) | (go_at_call 29; refine (word_whole.calls _ _ _ _ HW1.out).mono ?_; rintro e w' ⟨rfl, ⟨nd2, rfl⟩⟩) | ((with_reducible refine gate_builtin (b := .append) (xs := #[.tmp 37, .tmp 42]) rfl ?_); at_builtin; refine Kd.R_append k34 (w0 := w) w.heap.size rfl (.tmp 37) (.tmp 42) 22 34 (.agg #[(.int .i64 0), (.string ⟨#[]⟩), (.int .i64 0)]) 32 rfl Try.underlying22 info34 rfl (by decide) (by omega) u5 l (⟨3, Utf8.encode c, (pos : Int)⟩ : S34) [.int .i64 3, .string (Utf8.encode c), .int .i64 pos] (fun k => k ≠ w.heap.size) (fun _ => False) rfl rfl ?aP (fun _ hk => hk.elim) ?aF ?aO ?aB ?aS ?aL ?_; (case aP => exact k34_mkM' _ _ _ 3 (Utf8.encode c) (pos : Int)); (case aF => exact fun k hk => by have h1 := (Array.getElem?_eq_some_iff.1 HIT.out).1; have h2 : (wr.iterAt w.heap.size a0 (pos + (Utf8.decode a0 pos).2)).heap.size ≤ k := hk; omega); (case aO => exact (by repeat (first | exact HR.out | apply Kd.R_drewN))); (case aB => exact (by repeat (first | exact HB.out | apply pw_below_drewN))); (case aS => exact (by repeat (first | exact HB.out | apply pw_below_drewN) : Below w.heap.size w _).size); (case aL => have h1 := HL.out; have h2 := HPo.out; have h3 := HS.out; omega); intro v1 w1 ho hb hg hat; have hi1 := Aside0.mk (split_grown (s := a0) (pos := pos + (Utf8.decode a0 pos).2) (k := w.heap.size) (by repeat (first | exact HR.out | apply Kd.R_drewN)) (fun _ hj => hj) hg HIT.out); have ho1 := Aside0.mk ho; have hb1 := Aside0.mk hb; clear ho hb hg hat))
                      go_roundg k1
                      case measure => omega
                      case rel => exact ⟨_, rfl, ⟨_, _, HP.out, by rw [List.length_append]; have h1 := HL.out; have h2 := HW.out; simp; omega, HV3.out, ho1.out, hi1.out, hb1.out⟩⟩
                    · have bc : ((c : Int) == 65533) = false := by simpa using hc
                      clear hc
                      go_wp2_with (first | (go_at_call 28; refine (word_kind.calls 3 _ _ _ hk.out).mono ?_; rintro e w' ⟨rfl, ⟨nd, rfl⟩⟩) | ((with_reducible refine gate_builtin (b := .append) (xs := #[.tmp 37, .tmp 42]) rfl ?_); at_builtin; refine Kd.R_append k34 (w0 := w) w.heap.size rfl (.tmp 37) (.tmp 42) 22 34 (.agg #[(.int .i64 0), (.string ⟨#[]⟩), (.int .i64 0)]) 32 rfl Try.underlying22 info34 rfl (by decide) (by omega) u5 l (⟨3, Utf8.encode c, (pos : Int)⟩ : S34) [.int .i64 3, .string (Utf8.encode c), .int .i64 pos] (fun k => k ≠ w.heap.size) (fun _ => False) rfl rfl ?aP (fun _ hk => hk.elim) ?aF ?aO ?aB ?aS ?aL ?_; (case aP => exact k34_mkM' _ _ _ 3 (Utf8.encode c) (pos : Int)); (case aF => exact fun k hk => by have h1 := (Array.getElem?_eq_some_iff.1 HIT.out).1; have h2 : (wr.iterAt w.heap.size a0 (pos + (Utf8.decode a0 pos).2)).heap.size ≤ k := hk; omega); (case aO => exact (by repeat (first | exact HR.out | apply Kd.R_drewN))); (case aB => exact (by repeat (first | exact HB.out | apply pw_below_drewN))); (case aS => exact (by repeat (first | exact HB.out | apply pw_below_drewN) : Below w.heap.size w _).size); (case aL => have h1 := HL.out; have h2 := HPo.out; have h3 := HS.out; omega); intro v1 w1 ho hb hg hat; have hi1 := Aside0.mk (split_grown (s := a0) (pos := pos + (Utf8.decode a0 pos).2) (k := w.heap.size) (by repeat (first | exact HR.out | apply Kd.R_drewN)) (fun _ hj => hj) hg HIT.out); have ho1 := Aside0.mk ho; have hb1 := Aside0.mk hb; clear ho hb hg hat))
                      go_roundg k1
                      case measure => omega
                      case rel => exact ⟨_, rfl, ⟨_, _, HP.out, by rw [List.length_append]; have h1 := HL.out; have h2 := HW.out; simp; omega, HV3.out, ho1.out, hi1.out, hb1.out⟩⟩
        · rw [if_neg hp] at hA
          have hnx : ∀ ty, (Instr.next (.pointer (some ⟨w.heap.size, 0, none⟩)) true ty).run Try.prog wr = _ := fun ty => Lib.run_next_end_at wr w.heap.size a0 pos ty hit hp
          have HR := Aside0.mk hR
          have HB := Aside0.mk hB
          obtain ⟨h41, h42⟩ := Prod.mk.inj (Option.some.inj hA)
          obtain ⟨h42, h43⟩ := Prod.mk.inj h42
          have N1 := Aside0.mk h41
          have N2 := Aside0.mk h42
          have N3 := Aside0.mk h43
          clear hA hR hB hit h41 h42 h43 hl hpos hp
          go_wp2
          go_ret3
          exact ⟨_, by rw [← N2.out, ← N3.out]; rfl, by rw [← N1.out]; exact Kd.R_mono HR.out (fun _ _ => trivial), HB.out⟩


end Go.Proofs.Ytlpbjpkjmagodaa.PWord
