-- Written by a program of this session (mkprint.py, over the kit's print), out of the translation and of the contracts that the session gives.
import Derived.Test.YtecijnjnhdjokaaPClockFx0
namespace Go.Proofs.Ytecijnjnhdjokaa.PClockF
open Go.RowKit Go.Proofs.YtecijnjnhdjokaaW.PrintWords Go.Proofs.YtecijnjnhdjokaaW.PrintLast Go.Proofs.YtecijnjnhdjokaaW.PrintMore
attribute [local go_sem] max2_int min2_int max_two min_two max_three min_three max_four min_four   -- for this text's walks alone
set_option linter.unusedVariables false
set_option linter.unusedSimpArgs false

/-! ### clock_within: function 28 -/
def clock_within.f (a0 : Int) (a1 : Int) : Option (Bool) := if a0 ≥ 0 then (some (decide (a0 ≤ a1))) else (some false)
set_option maxHeartbeats 8000000 in
set_option maxRecDepth 100000 in
theorem clock_within.calls (a0 : Int) (a1 : Int) (r : Bool) (w : World) (h : clock_within.f a0 a1 = some r) :
    Calls Try.prog 28 #[.int .i64 a0, .int .i64 a1] w fun e w' => e = .returned (.bool r) ∧ Drawn0 w w' := by
  have H : (if a0 ≥ 0 then (some (decide (a0 ≤ a1))) else (some false)) = some r := h
  clear h
  by_cases c3 : a0 ≥ 0
  · rw [if_pos c3] at H
    have c3b0 : decide (0 ≤ a0) = true := decide_eq_true c3
    clear c3
    obtain rfl := Option.some.inj H
    go_enter Try.func28, Try.ntmps28
    go_wp2
    go_ret
    exact ⟨by first | rfl | (simp; done) | (simp [*]; done), by repeat (first | exact Drawn0.refl _ | apply Drawn0.step)⟩
  · rw [if_neg c3] at H
    have c3b0 : decide (0 ≤ a0) = false := decide_eq_false c3
    clear c3
    obtain rfl := Option.some.inj H
    go_enter Try.func28, Try.ntmps28
    go_wp2
    go_ret
    exact ⟨by first | rfl | (simp; done) | (simp [*]; done), by repeat (first | exact Drawn0.refl _ | apply Drawn0.step)⟩

/-! ### clock_digits: function 30 -/
/-- What lies in block B: a row of bytes that may be written. -/
structure ByteRow (B : Nat) (xs : List Int) (w : World) : Prop where
  cell : ∀ i, i < xs.length → w.cell? ⟨B, i, none⟩ = some (.int .u8 (xs.getD i 0))
  free : ∀ i, i < xs.length → w.frozen? ⟨B, i, none⟩ = false
theorem ByteRow.set {B : Nat} {xs : List Int} {w : World} (h : ByteRow B xs w) (j : Nat) (hj : j < xs.length) (c : Int) : ByteRow B (xs.set j c) (w.setCell ⟨B, j, none⟩ (.int .u8 c)) := by
  refine ⟨fun i hi => ?_, fun i hi => ?_⟩
  · rw [List.length_set] at hi
    by_cases e : i = j
    · subst e
      rw [World.cell?_setCell_same _ _ _ (h.cell i hi)]
      simp [List.getD, hi]
    · rw [World.cell?_setCell_other _ _ _ _ (by intro e2; injection e2; omega), h.cell i hi]
      simp [List.getD, List.getElem?_set, Ne.symm e]
  · rw [List.length_set] at hi
    rw [World.frozen?_setCell]
    exact h.free i hi
theorem ByteRow.drewN {B : Nat} {xs : List Int} {w : World} (h : ByteRow B xs w) (n : Nat) : ByteRow B xs (w.drewN n) := by
  induction n with
  | zero => exact h
  | succ n ih => exact ⟨ih.cell, ih.free⟩
/-- A number's digits ahead of some: k of them at most, c at least. -/
def decL : Nat → Nat → Nat → List Int → List Int
  | 0, _, _, acc => acc
  | k + 1, n, c, acc => if 0 < n ∨ 0 < c then decL k (n / 10) (c - 1) ((48 + (n : Int) % 10) :: acc) else acc
/-- 'clock.digits'. -/
def clock_digits.f (a0 : Int) (a1 : Int) : Option (ByteArray) := if 0 ≤ a0 ∧ a0 < 18446744073709551616 ∧ 0 ≤ a1 ∧ a1 ≤ 20 then some (strOfNums (decL 20 a0.toNat a1.toNat [])) else none
theorem set_rep (k : Nat) (acc : List Int) (v : Int) : (List.replicate (k + 1) (0 : Int) ++ acc).set k v = List.replicate k 0 ++ v :: acc := by
  rw [List.replicate_succ', List.append_assoc, List.set_append_right _ _ (by simp)]
  simp
theorem pow_step (n k : Nat) (h : n < 10 ^ (k + 1)) : n / 10 < 10 ^ k := by
  rw [Nat.pow_succ] at h
  omega
theorem wrap_u64' (n : Int) : IntKind.u64.wrap n = n % 18446744073709551616 := by simp [IntKind.wrap, IntKind.bits, IntKind.signed]
theorem zero_row (w : World) : ByteRow w.heap.size (List.replicate 20 (0 : Int)) (w.alloc (.cells (Array.replicate 20 (.int .u8 0)) 53)) := by
  refine ⟨fun i hi => ?_, fun i hi => ?_⟩
  · rw [List.length_replicate] at hi
    rw [World.cell?_alloc_new]
    rw [Array.getElem?_replicate, if_pos hi, List.getD_eq_getElem?_getD, List.getElem?_replicate, if_pos hi]
    rfl
  · exact World.frozen?_alloc_new _ _ _ _
theorem digits_slice (w : World) (B k : Nat) (hk : k ≤ 20) : (Instr.sliceAt 53 (.pointer (some ⟨B, 0, none⟩)) (some (.int .i64 (k : Int))) none none).run Try.prog w = .ok (.slice (some (if k = 20 then ⟨B, 0, none⟩ else ⟨B, k, none⟩)) (20 - k) (20 - k)) w := by
  have e0 : Try.prog.arrayLen 53 = 20 := by kernel_rfl
  have h := run_sliceAt_array_l (P := Try.prog) w 53 ⟨B, 0, none⟩ (by kernel_rfl) .i64 (k : Int) (Int.natCast_nonneg _) (by rw [e0]; omega)
  have e1 : (Go.sizeOf (Try.prog.elem 53)).run Try.prog w = .ok 1 w := by kernel_rfl
  rw [h, e1, e0]
  simp only [Result.andThen, slicedAt, Int.toNat_natCast, Nat.mul_one, Go.Proofs.YtecijnjnhdjokaaW.PrintWords.add_plain]
  by_cases h20 : k = 20
  · rw [if_pos h20.symm, if_pos h20]
  · rw [if_neg (fun h => h20 h.symm), if_neg h20]
set_option maxHeartbeats 1000000 in
set_option maxRecDepth 100000 in
theorem clock_digits.calls (a0 : Int) (a1 : Int) (r : ByteArray) (w : World) (h : clock_digits.f a0 a1 = some r) :
    Calls Try.prog 30 #[.int .u64 a0, .int .i64 a1] w fun e w' => e = .returned (.string r) ∧ Below w.heap.size w w' := by
  unfold clock_digits.f at h
  split at h
  · rename_i hc
    obtain ⟨h0, h1, h2, h3⟩ := hc
    obtain ⟨N, rfl⟩ := Int.eq_ofNat_of_zero_le h0
    obtain ⟨L, rfl⟩ := Int.eq_ofNat_of_zero_le h2
    rw [Int.toNat_natCast, Int.toNat_natCast] at h
    have hN : N < 10 ^ 20 := by omega
    have hN64' : N < 18446744073709551616 := by omega
    have HN64 := Aside0.mk hN64'
    have hL : L ≤ 20 := by omega
    have HN := Aside0.mk hN
    have H := Aside0.mk (Option.some.inj h)
    clear h h0 h1 h2 h3 hN hN64'
    have HZ := Aside0.mk (zero_row w)
    go_enter Try.func30, Try.ntmps30
    go_wp2
    go_loopg [0, 6] 20 (fun kq v0 v6 w' => ∃ (n k : Nat) (acc : List Int), v0 = .int .u64 n ∧ v6 = .int .i64 k ∧ k ≤ 20 ∧ Aside0 (kq = k) ∧ Aside0 (n < 10 ^ k) ∧ Aside0 (n < 18446744073709551616) ∧ Aside0 (acc.length + k = 20) ∧ Aside0 (strOfNums (decL k n (L - (20 - k)) acc) = r) ∧ Aside0 (ByteRow w.heap.size (List.replicate k (0 : Int) ++ acc) w') ∧ Aside0 (Below w.heap.size w w'))
    case atStart => exact ⟨N, 20, [], rfl, rfl, Nat.le_refl _, ⟨rfl⟩, HN, HN64, ⟨rfl⟩, H, ⟨by rw [List.append_nil]; exact HZ.out⟩, ⟨(Below.refl _ w).alloc (Nat.le_refl _) _⟩⟩
    case round =>
      clear H HZ HN HN64
      obtain ⟨n, k, acc, rfl, rfl, hk, HK, HN, H64, HA, H, HR, HB⟩ := hrel
      by_cases hc : 0 < n ∨ 0 < L - (20 - k)
      · have hk1 : 0 < k := by
          rcases hc with h | h
          · rcases Nat.eq_zero_or_pos k with h0 | h0
            · have := HN.out; rw [h0] at this; simp at this; omega
            · exact h0
          · omega
        obtain ⟨k, rfl⟩ : ∃ m, k = m + 1 := ⟨k - 1, by omega⟩
        have H2 := H.out
        simp only [decL] at H2
        rw [if_pos hc] at H2
        have HH := Aside0.mk H2
        clear H H2
        have HR2 := HR.out.set k (by simp; omega) (48 + (n : Int) % 10)
        rw [set_rep] at HR2
        have hcell := HR.out.cell k (by simp; omega)
        have hfree := HR.out.free k (by simp; omega)
        have HR3 := Aside0.mk HR2
        have HP := Aside0.mk (pow_step n k HN.out)
        have HB2 := Aside0.mk (HB.out.setCell (p := ⟨w.heap.size, k, none⟩) (Nat.le_refl _) (.int .u8 (48 + (n : Int) % 10)))
        have HL2 := Aside0.mk (show L - (20 - (k + 1)) - 1 = L - (20 - k) by omega)
        have HW := Aside0.mk (show IntKind.u64.wrap ((n : Int) / 10) = ((n / 10 : Nat) : Int) by rw [wrap_u64']; have := H64.out; omega)
        clear HR2
        have hcase : 0 < n ∨ (n = 0 ∧ 20 - (L : Int) < ((k + 1 : Nat) : Int)) := by
          rcases Nat.eq_zero_or_pos n with h0 | h0
          · exact .inr ⟨h0, by omega⟩
          · exact .inl h0
        clear hc hk1
        rcases hcase with c | ⟨rfl, c⟩
        · have c1 : decide (0 < n) = true := decide_eq_true c
          have c2 : decide ((0 : Int) < (n : Int)) = true := decide_eq_true (by omega)
          go_wp2
          go_roundg k
          case measure => have := HK.out; omega
          case rel => exact ⟨n / 10, k, (48 + (n : Int) % 10) :: acc, by rw [HW.out], rfl, by omega, ⟨rfl⟩, HP, ⟨by have := H64.out; omega⟩, ⟨by have := HA.out; simp; omega⟩, ⟨by rw [← HL2.out]; exact HH.out⟩, HR3, HB2⟩
        · have HW0 := Aside0.mk (show strOfNums (decL k 0 (L - (20 - k)) (48 :: acc)) = r by have := HH.out; rw [HL2.out] at this; exact this)
          have c3 : decide (20 - (L : Int) < (k : Int) + 1) = true := decide_eq_true (by omega)
          have c4 : decide (20 - (L : Int) < ((k + 1 : Nat) : Int)) = true := decide_eq_true (by omega)
          clear HP HW HH
          go_wp2
          go_roundg k
          case measure => have := HK.out; omega
          case rel => exact ⟨0, k, 48 :: acc, rfl, rfl, by omega, ⟨rfl⟩, ⟨Nat.pow_pos (by decide)⟩, ⟨by decide⟩, ⟨by have := HA.out; simp; omega⟩, HW0, HR3, HB2⟩
      · have hn0 : n = 0 := by omega
        subst hn0
        have H2 : strOfNums acc = r := by
          have h2 := H.out
          rcases k with _ | k
          · exact h2
          · simp only [decL] at h2
            rw [if_neg hc] at h2
            exact h2
        have HE := Aside0.mk H2
        have c3 : decide (20 - (L : Int) < (k : Int)) = false := decide_eq_false (by omega)
        have hback := run_convert_bytes_arg (P := Try.prog) wr 54 5 Try.underlying54 Try.underlying5 w.heap.size k (20 - k) (20 - k) acc (by have := HA.out; omega) (fun i hi => by
          have hA := HA.out
          have h3 := HR.out.cell (k + i) (by simp; omega)
          rw [List.getD_eq_getElem?_getD, List.getElem?_append_right (by simp), List.length_replicate, Nat.add_sub_cancel_left] at h3
          rw [List.getD_eq_getElem?_getD]
          exact h3) 9 Try.underlying9
        clear H2 hc
        have hsl := digits_slice wr w.heap.size k hk
        by_cases h20 : k = 20
        · rw [if_pos h20] at hsl
          have hback2 := run_convert_bytes_arg (P := Try.prog) wr 54 5 Try.underlying54 Try.underlying5 w.heap.size 0 (20 - k) (20 - k) acc (by have := HA.out; omega) (fun i hi => absurd hi (by omega)) 9 Try.underlying9
          clear hback h20
          go_wp2
          go_ret
          exact ⟨by rw [← HE.out]; rfl, HB.out⟩
        · rw [if_neg h20] at hsl
          clear h20
          go_wp2
          go_ret
          exact ⟨by rw [← HE.out]; rfl, HB.out⟩
  · cases h


/-! ### num_Sub: function 39 -/
def num_Sub.f (a0 : Int) (a1 : Int) : Option (Int × Int) := if ((decide ((wrap64 (a0 - a1)) < a0)) != (decide (a1 > 0))) = true then (some (0, 10)) else (some (wrap64 (a0 - a1), 0))
set_option maxHeartbeats 8000000 in
set_option maxRecDepth 100000 in
theorem num_Sub.calls (a0 : Int) (a1 : Int) (r1 : Int) (r2 : Int) (w : World) (h : num_Sub.f a0 a1 = some (r1, r2)) :
    Calls Try.prog 39 #[.int .i64 a0, .int .i64 a1] w fun e w' => e = .returned (.tuple #[.int .i64 r1, .int .i64 r2]) ∧ Drawn0 w w' := by
  have H : (if ((decide ((wrap64 (a0 - a1)) < a0)) != (decide (a1 > 0))) = true then (some (0, 10)) else (some (wrap64 (a0 - a1), 0))) = some (r1, r2) := h
  clear h
  by_cases c3 : ((decide ((wrap64 (a0 - a1)) < a0)) != (decide (a1 > 0))) = true
  · rw [if_pos c3] at H
    have c3b0 : ((decide ((wrap64 (a0 - a1)) < a0)) != (decide (a1 > 0))) = true := c3
    (try (have c3b1 : decide ((decide ((wrap64 (a0 - a1)) < a0)) = (decide (a1 > 0))) = false := by simpa using c3))
    (try (have c3b2 : ((decide ((wrap64 (a0 - a1)) < a0)) == (decide (a1 > 0))) = false := by simpa using c3))
    (try (have c3b3 : ¬ ((decide ((wrap64 (a0 - a1)) < a0)) = (decide (a1 > 0))) := by simpa using c3))
    clear c3
    simp only [Option.some.injEq, Prod.mk.injEq] at H
    obtain ⟨rfl, rfl⟩ := H
    go_enter Try.func39, Try.ntmps39
    go_wp2
    go_ret2
    exact ⟨by first | rfl | (simp; done) | (simp [*]; done), by repeat (first | exact Drawn0.refl _ | apply Drawn0.step)⟩
  · rw [if_neg c3] at H
    have c3b0 : ((decide ((wrap64 (a0 - a1)) < a0)) != (decide (a1 > 0))) = false := by simpa using c3
    (try (have c3b1 : decide ((decide ((wrap64 (a0 - a1)) < a0)) = (decide (a1 > 0))) = true := by simpa using c3))
    (try (have c3b2 : ((decide ((wrap64 (a0 - a1)) < a0)) == (decide (a1 > 0))) = true := by simpa using c3))
    clear c3
    simp only [Option.some.injEq, Prod.mk.injEq] at H
    obtain ⟨rfl, rfl⟩ := H
    go_enter Try.func39, Try.ntmps39
    go_wp2
    go_ret2
    exact ⟨by first | rfl | (simp; done) | (simp [*]; done), by repeat (first | exact Drawn0.refl _ | apply Drawn0.step)⟩

/-! ### num_Neg: function 31 -/
def num_Neg.f (a0 : Int) : Option (Int × Int) := (num_Sub.f 0 a0).bind fun bt101 => (some (bt101.1, bt101.2))
set_option maxHeartbeats 8000000 in
set_option maxRecDepth 100000 in
theorem num_Neg.calls (a0 : Int) (r1 : Int) (r2 : Int) (w : World) (h : num_Neg.f a0 = some (r1, r2)) :
    Calls Try.prog 31 #[.int .i64 a0] w fun e w' => e = .returned (.tuple #[.int .i64 r1, .int .i64 r2]) ∧ Drawn0 w w' := by
  have H : ((num_Sub.f 0 a0).bind fun bt101 => (some (bt101.1, bt101.2))) = some (r1, r2) := h
  clear h
  replace H := Option.bind_eq_some_iff.mp H
  obtain ⟨⟨t101, t102⟩, A20, H⟩ := H
  replace H : (some (t101, t102)) = some (r1, r2) := H
  have A2 := Aside0.mk A20
  clear A20
  simp only [Option.some.injEq, Prod.mk.injEq] at H
  obtain ⟨rfl, rfl⟩ := H
  go_enter Try.func31, Try.ntmps31
  go_wp2_with (first | ((with_reducible refine gate_callee (f := 39) rfl ?_); refine goesL_ (some 5) rfl rfl Try.func39 (by kernel_rfl) rfl #[.int .i64 0, .int .i64 a0] rfl (by (try simp only [List.map_toArray, List.map_cons, List.map_nil]); first | done | rfl | (simp only [List.length_drop, List.length_take]; rfl)) ?_; (with_reducible refine (num_Sub.calls 0 a0 t101 t102 _ A2.out).mono ?_); rintro e w' ⟨rfl, ⟨nd, rfl⟩⟩; refine ⟨_, rfl, ?_⟩))
  go_ret2
  exact ⟨by first | rfl | (simp; done) | (simp [*]; done), by repeat (first | exact Drawn0.refl _ | apply Drawn0.step)⟩

/-! ### clock_Two: function 11 -/
def clock_Two.f (a0 : Int) : Option (ByteArray) := if a0 ≥ 0 then ((clock_digits.f (IntKind.u64.wrap (a0)) 2).bind fun t103 => (some t103)) else ((num_Neg.f a0).bind fun bt104 => (if bt104.2 = 0 then ((clock_digits.f (IntKind.u64.wrap (bt104.1)) 2).bind fun t106 => (if 1 + t106.size ≤ 9223372036854775807 then (some ((⟨#[45]⟩ : ByteArray) ++ t106)) else (none))) else ((clock_digits.f 9223372036854775808 2).bind fun t107 => (if 1 + t107.size ≤ 9223372036854775807 then (some ((⟨#[45]⟩ : ByteArray) ++ t107)) else (none)))))
set_option maxHeartbeats 8000000 in
set_option maxRecDepth 100000 in
theorem clock_Two.calls (a0 : Int) (r : ByteArray) (w : World) (h : clock_Two.f a0 = some r) :
    Calls Try.prog 11 #[.int .i64 a0] w fun e w' => e = .returned (.string r) ∧ Below w.heap.size w w' := by
  have HB := Aside0.mk (Below.refl w.heap.size w)
  have H : (if a0 ≥ 0 then ((clock_digits.f (IntKind.u64.wrap (a0)) 2).bind fun t103 => (some t103)) else ((num_Neg.f a0).bind fun bt104 => (if bt104.2 = 0 then ((clock_digits.f (IntKind.u64.wrap (bt104.1)) 2).bind fun t106 => (if 1 + t106.size ≤ 9223372036854775807 then (some ((⟨#[45]⟩ : ByteArray) ++ t106)) else (none))) else ((clock_digits.f 9223372036854775808 2).bind fun t107 => (if 1 + t107.size ≤ 9223372036854775807 then (some ((⟨#[45]⟩ : ByteArray) ++ t107)) else (none)))))) = some r := h
  clear h
  by_cases c2 : a0 ≥ 0
  · rw [if_pos c2] at H
    have c2b0 : decide (0 ≤ a0) = true := decide_eq_true c2
    clear c2
    replace H := Option.bind_eq_some_iff.mp H
    obtain ⟨t103, A30, H⟩ := H
    replace H : (some t103) = some r := H
    have A3 := Aside0.mk A30
    clear A30
    obtain rfl := Option.some.inj H
    go_enter Try.func11, Try.ntmps11
    go_wp2_with (first | ((with_reducible refine gate_callee (f := 30) rfl ?_); refine goesL_ (some 9) rfl rfl Try.func30 (by kernel_rfl) rfl #[.int .u64 (IntKind.u64.wrap (a0)), .int .i64 2] rfl (by (try simp only [List.map_toArray, List.map_cons, List.map_nil]); first | done | rfl | (simp only [List.length_drop, List.length_take]; rfl)) ?_; (with_reducible refine (clock_digits.calls (IntKind.u64.wrap (a0)) 2 t103 _ A3.out).mono ?_); rintro e w4 ⟨rfl, hb⟩; refine ⟨_, rfl, ?_⟩; have n0_ := Aside0.mk (below_step (by repeat (first | (with_reducible first | exact HB.out | apply below_alloc | apply pw_below_drewN | apply below_drew1) | exact HB.out)) hb); clear HB; have HB := n0_; clear n0_; (try clear hb); (try clear hb2); (try clear hk); (try clear hi)))
    go_ret
    exact ⟨by first | rfl | (simp [errW_none, errW_some] <;> rfl) | (simp [*, errW_none, errW_some] <;> rfl), by repeat (first | (with_reducible first | exact HB.out | apply below_alloc | apply pw_below_drewN | apply below_drew1) | exact HB.out)⟩
  · rw [if_neg c2] at H
    have c2b0 : decide (0 ≤ a0) = false := decide_eq_false c2
    clear c2
    replace H := Option.bind_eq_some_iff.mp H
    obtain ⟨⟨t104, t105⟩, A50, H⟩ := H
    replace H : (if t105 = 0 then ((clock_digits.f (IntKind.u64.wrap (t104)) 2).bind fun t106 => (if 1 + t106.size ≤ 9223372036854775807 then (some ((⟨#[45]⟩ : ByteArray) ++ t106)) else (none))) else ((clock_digits.f 9223372036854775808 2).bind fun t107 => (if 1 + t107.size ≤ 9223372036854775807 then (some ((⟨#[45]⟩ : ByteArray) ++ t107)) else (none)))) = some r := H
    have A5 := Aside0.mk A50
    clear A50
    by_cases c6 : t105 = 0
    · rw [if_pos c6] at H
      have c6b0 : (t105 == 0) = true := beq_iff_eq.mpr c6
      have c6b1 : (t105 != 0) = false := bne_eq_false_iff_eq.mpr c6
      clear c6
      replace H := Option.bind_eq_some_iff.mp H
      obtain ⟨t106, A70, H⟩ := H
      replace H : (if 1 + t106.size ≤ 9223372036854775807 then (some ((⟨#[45]⟩ : ByteArray) ++ t106)) else (none)) = some r := H
      have A7 := Aside0.mk A70
      clear A70
      by_cases c8 : 1 + t106.size ≤ 9223372036854775807
      · rw [if_pos c8] at H
        have c8b0 := eq_true c8
        have c8b1 : decide (1 + t106.size ≤ 9223372036854775807) = true := decide_eq_true c8
        try have c8b2 : (9223372036854775807 < 1 + t106.size) = False := eq_false (Nat.not_lt.2 c8)
        obtain rfl := Option.some.inj H
        go_enter Try.func11, Try.ntmps11
        go_wp2_with (first | ((with_reducible refine gate_callee (f := 31) rfl ?_); refine goesL_ (some 12) rfl rfl Try.func31 (by kernel_rfl) rfl #[.int .i64 a0] rfl (by (try simp only [List.map_toArray, List.map_cons, List.map_nil]); first | done | rfl | (simp only [List.length_drop, List.length_take]; rfl)) ?_; (with_reducible refine (num_Neg.calls a0 t104 t105 _ A5.out).mono ?_); rintro e w' ⟨rfl, ⟨nd, rfl⟩⟩; refine ⟨_, rfl, ?_⟩) | ((with_reducible refine gate_callee (f := 30) rfl ?_); refine goesL_ (some 19) rfl rfl Try.func30 (by kernel_rfl) rfl #[.int .u64 (IntKind.u64.wrap (t104)), .int .i64 2] rfl (by (try simp only [List.map_toArray, List.map_cons, List.map_nil]); first | done | rfl | (simp only [List.length_drop, List.length_take]; rfl)) ?_; (with_reducible refine (clock_digits.calls (IntKind.u64.wrap (t104)) 2 t106 _ A7.out).mono ?_); rintro e w9 ⟨rfl, hb⟩; refine ⟨_, rfl, ?_⟩; have n0_ := Aside0.mk (below_step (by repeat (first | (with_reducible first | exact HB.out | apply below_alloc | apply pw_below_drewN | apply below_drew1) | exact HB.out)) hb); clear HB; have HB := n0_; clear n0_; (try clear hb); (try clear hb2); (try clear hk); (try clear hi)))
        go_ret
        exact ⟨by first | rfl | (simp [errW_none, errW_some] <;> rfl) | (simp [*, errW_none, errW_some] <;> rfl), by repeat (first | (with_reducible first | exact HB.out | apply below_alloc | apply pw_below_drewN | apply below_drew1) | exact HB.out)⟩
      · rw [if_neg c8] at H
        exact absurd H (by simp)
    · rw [if_neg c6] at H
      have c6b0 : (t105 == 0) = false := beq_eq_false_iff_ne.mpr c6
      have c6b1 : (t105 != 0) = true := bne_iff_ne.mpr c6
      replace H := Option.bind_eq_some_iff.mp H
      obtain ⟨t107, A100, H⟩ := H
      replace H : (if 1 + t107.size ≤ 9223372036854775807 then (some ((⟨#[45]⟩ : ByteArray) ++ t107)) else (none)) = some r := H
      have A10 := Aside0.mk A100
      clear A100
      by_cases c11 : 1 + t107.size ≤ 9223372036854775807
      · rw [if_pos c11] at H
        have c11b0 := eq_true c11
        have c11b1 : decide (1 + t107.size ≤ 9223372036854775807) = true := decide_eq_true c11
        try have c11b2 : (9223372036854775807 < 1 + t107.size) = False := eq_false (Nat.not_lt.2 c11)
        obtain rfl := Option.some.inj H
        go_enter Try.func11, Try.ntmps11
        go_wp2_with (first | ((with_reducible refine gate_callee (f := 31) rfl ?_); refine goesL_ (some 12) rfl rfl Try.func31 (by kernel_rfl) rfl #[.int .i64 a0] rfl (by (try simp only [List.map_toArray, List.map_cons, List.map_nil]); first | done | rfl | (simp only [List.length_drop, List.length_take]; rfl)) ?_; (with_reducible refine (num_Neg.calls a0 t104 t105 _ A5.out).mono ?_); rintro e w' ⟨rfl, ⟨nd, rfl⟩⟩; refine ⟨_, rfl, ?_⟩) | ((with_reducible refine gate_callee (f := 30) rfl ?_); refine goesL_ (some 21) rfl rfl Try.func30 (by kernel_rfl) rfl #[.int .u64 9223372036854775808, .int .i64 2] rfl (by (try simp only [List.map_toArray, List.map_cons, List.map_nil]); first | done | rfl | (simp only [List.length_drop, List.length_take]; rfl)) ?_; (with_reducible refine (clock_digits.calls 9223372036854775808 2 t107 _ A10.out).mono ?_); rintro e w12 ⟨rfl, hb⟩; refine ⟨_, rfl, ?_⟩; have n0_ := Aside0.mk (below_step (by repeat (first | (with_reducible first | exact HB.out | apply below_alloc | apply pw_below_drewN | apply below_drew1) | exact HB.out)) hb); clear HB; have HB := n0_; clear n0_; (try clear hb); (try clear hb2); (try clear hk); (try clear hi)))
        go_ret
        exact ⟨by first | rfl | (simp [errW_none, errW_some] <;> rfl) | (simp [*, errW_none, errW_some] <;> rfl), by repeat (first | (with_reducible first | exact HB.out | apply below_alloc | apply pw_below_drewN | apply below_drew1) | exact HB.out)⟩
      · rw [if_neg c11] at H
        exact absurd H (by simp)

/-! ### clock_Fraction: function 13 -/
/-- Behind which byte no sign but 0 stands. -/
def fracLoop (s : ByteArray) : Nat → Nat → Int → Option Int
  | 0, _, _ => none
  | d + 1, pos, e => if pos < s.size then (if bt s pos < 128 then fracLoop s d (pos + 1) (if bt s pos = 48 then e else (pos : Int) + 1) else none) else some e
/-- 'clock.Fraction'. -/
def clock_Fraction.f (a0 : Int) : Option (ByteArray) := if a0 ≤ 0 ∨ 999999 < a0 then some ⟨#[]⟩ else (clock_digits.f a0 6).bind fun s => (fracLoop s (s.size + 1) 0 0).bind fun e => if 0 ≤ e ∧ e ≤ s.size ∧ s.size ≤ 100 then some (⟨#[46]⟩ ++ s.extract 0 e.toNat) else none
def FracInv (s : ByteArray) (r : Int) (w : World) (kq : Nat) (e : Int) (w' : World) : Prop :=
  ∃ pos : Nat, pos ≤ s.size ∧ fracLoop s kq pos e = some r ∧ w'.heap[w.heap.size]? = some (.stringIter s pos) ∧ Below w.heap.size w w'
set_option maxHeartbeats 2000000 in
set_option maxRecDepth 100000 in
theorem clock_Fraction.calls (a0 : Int) (r : ByteArray) (w : World) (h : clock_Fraction.f a0 = some r) :
    Calls Try.prog 13 #[.int .i64 a0] w fun e w' => e = .returned (.string r) ∧ Below w.heap.size w w' := by
  unfold clock_Fraction.f at h
  by_cases hc : a0 ≤ 0 ∨ 999999 < a0
  · rw [if_pos hc] at h
    obtain rfl := Option.some.inj h
    clear h
    rcases (show a0 ≤ 0 ∨ (¬ a0 ≤ 0 ∧ 999999 < a0) by omega) with c | ⟨c, c'⟩
    · have c1 : decide (a0 ≤ 0) = true := decide_eq_true c
      go_enter Try.func13, Try.ntmps13
      go_wp2
      go_ret
      exact ⟨rfl, Below.refl _ _⟩
    · have c1 : decide (a0 ≤ 0) = false := decide_eq_false c
      have c2 : decide (999999 < a0) = true := decide_eq_true c'
      go_enter Try.func13, Try.ntmps13
      go_wp2
      go_ret
      exact ⟨rfl, Below.refl _ _⟩
  · rw [if_neg hc] at h
    have c1 : decide (a0 ≤ 0) = false := decide_eq_false (by omega)
    have c2 : decide (999999 < a0) = false := decide_eq_false (by omega)
    obtain ⟨s, hs, h⟩ := Option.bind_eq_some_iff.mp h
    obtain ⟨en, he, h⟩ := Option.bind_eq_some_iff.mp h
    split at h
    · rename_i hb
      obtain ⟨b0, b1, b2⟩ := hb
      have b0 := Aside0.mk b0
      have b1 := Aside0.mk b1
      have b2 := Aside0.mk b2
      have HS := Aside0.mk hs
      have HE := Aside0.mk he
      have HR := Aside0.mk (Option.some.inj h)
      have hw : IntKind.u64.wrap a0 = a0 := by rw [wrap_u64']; omega
      clear hs he h hc
      go_enter Try.func13, Try.ntmps13
      go_wp2_with (first | (go_at_call 30; refine (clock_digits.calls _ _ _ _ HS.out).mono ?_; rintro e w1 ⟨rfl, hb1⟩; have HB1 := Aside0.mk hb1; clear hb1))
      go_loopg [4] (s.size + 1) (fun kq v4 w' => ∃ e : Int, v4 = .int .i64 e ∧ Aside0 (FracInv s en w1 kq e w'))
      case atStart => exact ⟨0, rfl, ⟨0, Nat.zero_le _, HE.out, World.iter_heap w1 s 0, (Below.refl _ w1).alloc (Nat.le_refl _) _⟩⟩
      case round =>
        clear HE HS
        obtain ⟨e, rfl, HI⟩ := hrel
        obtain ⟨pos, hpos, hA, hit, hB⟩ := HI.out
        clear HI
        cases gk with
        | zero => exact absurd hA (by simp [fracLoop])
        | succ k1 =>
          simp only [fracLoop] at hA
          by_cases hp : pos < s.size
          · rw [if_pos hp] at hA
            by_cases ha : bt s pos < 128
            · rw [if_pos ha] at hA
              have hbt : bt s pos = ((s[pos]'hp).toNat : Int) := by unfold bt; rw [dif_pos (by simpa using hp)]; simp
              have hnx : ∀ ty, (Instr.next (.pointer (some ⟨w1.heap.size, 0, none⟩)) true ty).run Try.prog wr = .ok (.tuple #[.bool true, .int .i64 pos, .int .i32 (bt s pos)]) (wr.iterAt w1.heap.size s (pos + 1)) := fun ty => by
                rw [hbt]; exact Lib.run_next_ascii_at wr w1.heap.size s pos ty hit hp (by omega)
              have HIT := Aside0.mk (Lib.iterAt_heap wr w1.heap.size s pos (pos + 1) hit)
              have HB := Aside0.mk (Lib.below_iterAt hB (k := w1.heap.size) (Nat.le_refl _) s (pos + 1))
              have HP := Aside0.mk (show pos + 1 ≤ s.size from hp)
              have hpb : pos ≤ 100 := by have := b2.out; omega
              have HV := Aside0.mk hA
              clear hit hB hpos hA hbt ha hp
              generalize bt s (pos : Int) = c at hnx HV
              by_cases h48 : c = 48
              · subst h48
                have HV2 := HV.out
                rw [if_pos rfl] at HV2
                have HV3 := Aside0.mk HV2
                clear HV HV2
                go_wp2
                go_roundg k1
                case measure => omega
                case rel => exact ⟨e, rfl, ⟨pos + 1, HP.out, HV3.out, HIT.out, HB.out⟩⟩
              · have b48 : (c == 48) = false := by simpa using h48
                have b48n : (c != 48) = true := by simpa using h48
                have HV2 := HV.out
                rw [if_neg h48] at HV2
                have HV3 := Aside0.mk HV2
                clear HV HV2 h48
                go_wp2
                go_roundg k1
                case measure => omega
                case rel => exact ⟨(pos : Int) + 1, by go_num, ⟨pos + 1, HP.out, HV3.out, HIT.out, HB.out⟩⟩
            · rw [if_neg ha] at hA; cases hA
          · rw [if_neg hp] at hA
            obtain rfl := Option.some.inj hA
            have hnx : ∀ ty, (Instr.next (.pointer (some ⟨w1.heap.size, 0, none⟩)) true ty).run Try.prog wr = _ := fun ty => Lib.run_next_end_at wr w1.heap.size s pos ty hit hp
            have HB := Aside0.mk (below_step HB1.out hB)
            obtain ⟨n, rfl⟩ := Int.eq_ofNat_of_zero_le b0.out
            have hR := HR.out
            rw [Int.toNat_natCast] at hR
            have HR2 := Aside0.mk hR
            have hn : n ≤ s.size := by have := b1.out; omega
            have hs100 : s.size ≤ 100 := b2.out
            have hex : (s.extract 0 n).size ≤ 100 := by
              have h1 : (s.extract 0 n).data.toList.length ≤ n := by rw [ByteArray.data_extract, Array.toList_extract]; simp; omega
              rw [Array.length_toList] at h1
              exact Nat.le_trans h1 (by omega)
            clear hA hit hB hpos hp HR hR
            go_wp2
            go_ret
            exact ⟨by rw [← HR2.out]; rfl, HB.out⟩
    · cases h


/-! ### clock_parts: function 38 -/
def clock_parts.f (a0 : Int) : Option (Int × Int × Int × Int) := some (wrap64 (IntKind.u64.wrap (Int.tdiv a0 3600000000)), wrap64 (Int.tmod (IntKind.u64.wrap (Int.tdiv a0 60000000)) 60), wrap64 (Int.tmod (IntKind.u64.wrap (Int.tdiv a0 1000000)) 60), wrap64 (Int.tmod a0 1000000))
set_option maxHeartbeats 8000000 in
set_option maxRecDepth 100000 in
theorem clock_parts.calls (a0 : Int) (r1 : Int) (r2 : Int) (r3 : Int) (r4 : Int) (w : World) (h : clock_parts.f a0 = some (r1, r2, r3, r4)) :
    Calls Try.prog 38 #[.int .u64 a0] w fun e w' => e = .returned (.tuple #[.int .i64 r1, .int .i64 r2, .int .i64 r3, .int .i64 r4]) ∧ Drawn0 w w' := by
  have H : (some (wrap64 (IntKind.u64.wrap (Int.tdiv a0 3600000000)), wrap64 (Int.tmod (IntKind.u64.wrap (Int.tdiv a0 60000000)) 60), wrap64 (Int.tmod (IntKind.u64.wrap (Int.tdiv a0 1000000)) 60), wrap64 (Int.tmod a0 1000000))) = some (r1, r2, r3, r4) := h
  clear h
  simp only [Option.some.injEq, Prod.mk.injEq] at H
  obtain ⟨rfl, rfl, rfl, rfl⟩ := H
  go_enter Try.func38, Try.ntmps38
  go_wp2
  refine bodyPost_ret (results_list (rs := [.tmp 2, .tmp 3, .tmp 4, .tmp 5]) rfl (by simp) (.tmp (.tmp (.tmp (.tmp .nil))))) rfl ?_
  exact ⟨by first | rfl | (simp; done) | (simp [*]; done), by repeat (first | exact Drawn0.refl _ | apply Drawn0.step)⟩

/-! ### clock_text: function 29 -/
def clock_text.f (a0 : Int) : Option (ByteArray) := (clock_parts.f a0).bind fun bt108 => ((clock_Two.f bt108.1).bind fun t112 => (if t112.size + 1 ≤ 9223372036854775807 then ((clock_Two.f bt108.2.1).bind fun t113 => (if (t112 ++ (⟨#[58]⟩ : ByteArray)).size + t113.size ≤ 9223372036854775807 then (if ((t112 ++ (⟨#[58]⟩ : ByteArray)) ++ t113).size + 1 ≤ 9223372036854775807 then ((clock_Two.f bt108.2.2.1).bind fun t114 => (if (((t112 ++ (⟨#[58]⟩ : ByteArray)) ++ t113) ++ (⟨#[58]⟩ : ByteArray)).size + t114.size ≤ 9223372036854775807 then ((clock_Fraction.f bt108.2.2.2).bind fun t115 => (if ((((t112 ++ (⟨#[58]⟩ : ByteArray)) ++ t113) ++ (⟨#[58]⟩ : ByteArray)) ++ t114).size + t115.size ≤ 9223372036854775807 then (some (((((t112 ++ (⟨#[58]⟩ : ByteArray)) ++ t113) ++ (⟨#[58]⟩ : ByteArray)) ++ t114) ++ t115)) else (none))) else (none))) else (none)) else (none))) else (none)))
set_option maxHeartbeats 8000000 in
set_option maxRecDepth 100000 in
theorem clock_text.calls (a0 : Int) (r : ByteArray) (w : World) (h : clock_text.f a0 = some r) :
    Calls Try.prog 29 #[.int .u64 a0] w fun e w' => e = .returned (.string r) ∧ Below w.heap.size w w' := by
  have HB := Aside0.mk (Below.refl w.heap.size w)
  have H : ((clock_parts.f a0).bind fun bt108 => ((clock_Two.f bt108.1).bind fun t112 => (if t112.size + 1 ≤ 9223372036854775807 then ((clock_Two.f bt108.2.1).bind fun t113 => (if (t112 ++ (⟨#[58]⟩ : ByteArray)).size + t113.size ≤ 9223372036854775807 then (if ((t112 ++ (⟨#[58]⟩ : ByteArray)) ++ t113).size + 1 ≤ 9223372036854775807 then ((clock_Two.f bt108.2.2.1).bind fun t114 => (if (((t112 ++ (⟨#[58]⟩ : ByteArray)) ++ t113) ++ (⟨#[58]⟩ : ByteArray)).size + t114.size ≤ 9223372036854775807 then ((clock_Fraction.f bt108.2.2.2).bind fun t115 => (if ((((t112 ++ (⟨#[58]⟩ : ByteArray)) ++ t113) ++ (⟨#[58]⟩ : ByteArray)) ++ t114).size + t115.size ≤ 9223372036854775807 then (some (((((t112 ++ (⟨#[58]⟩ : ByteArray)) ++ t113) ++ (⟨#[58]⟩ : ByteArray)) ++ t114) ++ t115)) else (none))) else (none))) else (none)) else (none))) else (none)))) = some r := h
  clear h
  replace H := Option.bind_eq_some_iff.mp H
  obtain ⟨⟨t108, t109, t110, t111⟩, A20, H⟩ := H
  replace H : ((clock_Two.f t108).bind fun t112 => (if t112.size + 1 ≤ 9223372036854775807 then ((clock_Two.f t109).bind fun t113 => (if (t112 ++ (⟨#[58]⟩ : ByteArray)).size + t113.size ≤ 9223372036854775807 then (if ((t112 ++ (⟨#[58]⟩ : ByteArray)) ++ t113).size + 1 ≤ 9223372036854775807 then ((clock_Two.f t110).bind fun t114 => (if (((t112 ++ (⟨#[58]⟩ : ByteArray)) ++ t113) ++ (⟨#[58]⟩ : ByteArray)).size + t114.size ≤ 9223372036854775807 then ((clock_Fraction.f t111).bind fun t115 => (if ((((t112 ++ (⟨#[58]⟩ : ByteArray)) ++ t113) ++ (⟨#[58]⟩ : ByteArray)) ++ t114).size + t115.size ≤ 9223372036854775807 then (some (((((t112 ++ (⟨#[58]⟩ : ByteArray)) ++ t113) ++ (⟨#[58]⟩ : ByteArray)) ++ t114) ++ t115)) else (none))) else (none))) else (none)) else (none))) else (none))) = some r := H
  have A2 := Aside0.mk A20
  clear A20
  replace H := Option.bind_eq_some_iff.mp H
  obtain ⟨t112, A30, H⟩ := H
  replace H : (if t112.size + 1 ≤ 9223372036854775807 then ((clock_Two.f t109).bind fun t113 => (if (t112 ++ (⟨#[58]⟩ : ByteArray)).size + t113.size ≤ 9223372036854775807 then (if ((t112 ++ (⟨#[58]⟩ : ByteArray)) ++ t113).size + 1 ≤ 9223372036854775807 then ((clock_Two.f t110).bind fun t114 => (if (((t112 ++ (⟨#[58]⟩ : ByteArray)) ++ t113) ++ (⟨#[58]⟩ : ByteArray)).size + t114.size ≤ 9223372036854775807 then ((clock_Fraction.f t111).bind fun t115 => (if ((((t112 ++ (⟨#[58]⟩ : ByteArray)) ++ t113) ++ (⟨#[58]⟩ : ByteArray)) ++ t114).size + t115.size ≤ 9223372036854775807 then (some (((((t112 ++ (⟨#[58]⟩ : ByteArray)) ++ t113) ++ (⟨#[58]⟩ : ByteArray)) ++ t114) ++ t115)) else (none))) else (none))) else (none)) else (none))) else (none)) = some r := H
  have A3 := Aside0.mk A30
  clear A30
  by_cases c4 : t112.size + 1 ≤ 9223372036854775807
  · rw [if_pos c4] at H
    have c4b0 := eq_true c4
    have c4b1 : decide (t112.size + 1 ≤ 9223372036854775807) = true := decide_eq_true c4
    try have c4b2 : (9223372036854775807 < t112.size + 1) = False := eq_false (Nat.not_lt.2 c4)
    replace H := Option.bind_eq_some_iff.mp H
    obtain ⟨t113, A50, H⟩ := H
    replace H : (if (t112 ++ (⟨#[58]⟩ : ByteArray)).size + t113.size ≤ 9223372036854775807 then (if ((t112 ++ (⟨#[58]⟩ : ByteArray)) ++ t113).size + 1 ≤ 9223372036854775807 then ((clock_Two.f t110).bind fun t114 => (if (((t112 ++ (⟨#[58]⟩ : ByteArray)) ++ t113) ++ (⟨#[58]⟩ : ByteArray)).size + t114.size ≤ 9223372036854775807 then ((clock_Fraction.f t111).bind fun t115 => (if ((((t112 ++ (⟨#[58]⟩ : ByteArray)) ++ t113) ++ (⟨#[58]⟩ : ByteArray)) ++ t114).size + t115.size ≤ 9223372036854775807 then (some (((((t112 ++ (⟨#[58]⟩ : ByteArray)) ++ t113) ++ (⟨#[58]⟩ : ByteArray)) ++ t114) ++ t115)) else (none))) else (none))) else (none)) else (none)) = some r := H
    have A5 := Aside0.mk A50
    clear A50
    by_cases c6 : (t112 ++ (⟨#[58]⟩ : ByteArray)).size + t113.size ≤ 9223372036854775807
    · rw [if_pos c6] at H
      have c6h : ∀ W, (Op.stringOp .add (t112 ++ (⟨#[58]⟩ : ByteArray)) t113).run Try.prog W = .ok (.string ((t112 ++ (⟨#[58]⟩ : ByteArray)) ++ t113)) W := fun W => run_string_add_sum W _ _ c6


      by_cases c7 : ((t112 ++ (⟨#[58]⟩ : ByteArray)) ++ t113).size + 1 ≤ 9223372036854775807
      · rw [if_pos c7] at H
        have c7h : ∀ W, (Op.stringOp .add ((t112 ++ (⟨#[58]⟩ : ByteArray)) ++ t113) (⟨#[58]⟩ : ByteArray)).run Try.prog W = .ok (.string (((t112 ++ (⟨#[58]⟩ : ByteArray)) ++ t113) ++ (⟨#[58]⟩ : ByteArray))) W := fun W => run_string_add_sum W _ _ c7


        replace H := Option.bind_eq_some_iff.mp H
        obtain ⟨t114, A80, H⟩ := H
        replace H : (if (((t112 ++ (⟨#[58]⟩ : ByteArray)) ++ t113) ++ (⟨#[58]⟩ : ByteArray)).size + t114.size ≤ 9223372036854775807 then ((clock_Fraction.f t111).bind fun t115 => (if ((((t112 ++ (⟨#[58]⟩ : ByteArray)) ++ t113) ++ (⟨#[58]⟩ : ByteArray)) ++ t114).size + t115.size ≤ 9223372036854775807 then (some (((((t112 ++ (⟨#[58]⟩ : ByteArray)) ++ t113) ++ (⟨#[58]⟩ : ByteArray)) ++ t114) ++ t115)) else (none))) else (none)) = some r := H
        have A8 := Aside0.mk A80
        clear A80
        by_cases c9 : (((t112 ++ (⟨#[58]⟩ : ByteArray)) ++ t113) ++ (⟨#[58]⟩ : ByteArray)).size + t114.size ≤ 9223372036854775807
        · rw [if_pos c9] at H
          have c9h : ∀ W, (Op.stringOp .add (((t112 ++ (⟨#[58]⟩ : ByteArray)) ++ t113) ++ (⟨#[58]⟩ : ByteArray)) t114).run Try.prog W = .ok (.string ((((t112 ++ (⟨#[58]⟩ : ByteArray)) ++ t113) ++ (⟨#[58]⟩ : ByteArray)) ++ t114)) W := fun W => run_string_add_sum W _ _ c9


          replace H := Option.bind_eq_some_iff.mp H
          obtain ⟨t115, A100, H⟩ := H
          replace H : (if ((((t112 ++ (⟨#[58]⟩ : ByteArray)) ++ t113) ++ (⟨#[58]⟩ : ByteArray)) ++ t114).size + t115.size ≤ 9223372036854775807 then (some (((((t112 ++ (⟨#[58]⟩ : ByteArray)) ++ t113) ++ (⟨#[58]⟩ : ByteArray)) ++ t114) ++ t115)) else (none)) = some r := H
          have A10 := Aside0.mk A100
          clear A100
          by_cases c11 : ((((t112 ++ (⟨#[58]⟩ : ByteArray)) ++ t113) ++ (⟨#[58]⟩ : ByteArray)) ++ t114).size + t115.size ≤ 9223372036854775807
          · rw [if_pos c11] at H
            have c11h : ∀ W, (Op.stringOp .add ((((t112 ++ (⟨#[58]⟩ : ByteArray)) ++ t113) ++ (⟨#[58]⟩ : ByteArray)) ++ t114) t115).run Try.prog W = .ok (.string (((((t112 ++ (⟨#[58]⟩ : ByteArray)) ++ t113) ++ (⟨#[58]⟩ : ByteArray)) ++ t114) ++ t115)) W := fun W => run_string_add_sum W _ _ c11


            obtain rfl := Option.some.inj H
            go_enter Try.func29, Try.ntmps29
            go_wp2_with (first | ((with_reducible refine gate_callee (f := 38) rfl ?_); refine goesL_ (some 9) rfl rfl Try.func38 (by kernel_rfl) rfl #[.int .u64 a0] rfl (by (try simp only [List.map_toArray, List.map_cons, List.map_nil]); first | done | rfl | (simp only [List.length_drop, List.length_take]; rfl)) ?_; (with_reducible refine (clock_parts.calls a0 t108 t109 t110 t111 _ A2.out).mono ?_); rintro e w' ⟨rfl, ⟨nd, rfl⟩⟩; refine ⟨_, rfl, ?_⟩) | ((with_reducible refine gate_callee (f := 11) rfl ?_); refine goesL_ (some 15) rfl rfl Try.func11 (by kernel_rfl) rfl #[.int .i64 t108] rfl (by (try simp only [List.map_toArray, List.map_cons, List.map_nil]); first | done | rfl | (simp only [List.length_drop, List.length_take]; rfl)) ?_; (with_reducible refine (clock_Two.calls t108 t112 _ A3.out).mono ?_); rintro e w12 ⟨rfl, hb⟩; refine ⟨_, rfl, ?_⟩; have n0_ := Aside0.mk (below_step (by repeat (first | (with_reducible first | exact HB.out | apply below_alloc | apply pw_below_drewN | apply below_drew1) | exact HB.out)) hb); clear HB; have HB := n0_; clear n0_; (try clear hb); (try clear hb2); (try clear hk); (try clear hi)) | ((with_reducible refine gate_callee (f := 11) rfl ?_); refine goesL_ (some 18) rfl rfl Try.func11 (by kernel_rfl) rfl #[.int .i64 t109] rfl (by (try simp only [List.map_toArray, List.map_cons, List.map_nil]); first | done | rfl | (simp only [List.length_drop, List.length_take]; rfl)) ?_; (with_reducible refine (clock_Two.calls t109 t113 _ A5.out).mono ?_); rintro e w13 ⟨rfl, hb⟩; refine ⟨_, rfl, ?_⟩; have n0_ := Aside0.mk (below_step (by repeat (first | (with_reducible first | exact HB.out | apply below_alloc | apply pw_below_drewN | apply below_drew1) | exact HB.out)) hb); clear HB; have HB := n0_; clear n0_; (try clear hb); (try clear hb2); (try clear hk); (try clear hi)) | ((with_reducible refine gate_callee (f := 11) rfl ?_); refine goesL_ (some 22) rfl rfl Try.func11 (by kernel_rfl) rfl #[.int .i64 t110] rfl (by (try simp only [List.map_toArray, List.map_cons, List.map_nil]); first | done | rfl | (simp only [List.length_drop, List.length_take]; rfl)) ?_; (with_reducible refine (clock_Two.calls t110 t114 _ A8.out).mono ?_); rintro e w14 ⟨rfl, hb⟩; refine ⟨_, rfl, ?_⟩; have n0_ := Aside0.mk (below_step (by repeat (first | (with_reducible first | exact HB.out | apply below_alloc | apply pw_below_drewN | apply below_drew1) | exact HB.out)) hb); clear HB; have HB := n0_; clear n0_; (try clear hb); (try clear hb2); (try clear hk); (try clear hi)) | ((with_reducible refine gate_callee (f := 13) rfl ?_); refine goesL_ (some 25) rfl rfl Try.func13 (by kernel_rfl) rfl #[.int .i64 t111] rfl (by (try simp only [List.map_toArray, List.map_cons, List.map_nil]); first | done | rfl | (simp only [List.length_drop, List.length_take]; rfl)) ?_; (with_reducible refine (clock_Fraction.calls t111 t115 _ A10.out).mono ?_); rintro e w15 ⟨rfl, hb⟩; refine ⟨_, rfl, ?_⟩; have n0_ := Aside0.mk (below_step (by repeat (first | (with_reducible first | exact HB.out | apply below_alloc | apply pw_below_drewN | apply below_drew1) | exact HB.out)) hb); clear HB; have HB := n0_; clear n0_; (try clear hb); (try clear hb2); (try clear hk); (try clear hi)))
            go_ret
            exact ⟨by first | rfl | (simp [errW_none, errW_some] <;> rfl) | (simp [*, errW_none, errW_some] <;> rfl), by repeat (first | (with_reducible first | exact HB.out | apply below_alloc | apply pw_below_drewN | apply below_drew1) | exact HB.out)⟩
          · rw [if_neg c11] at H
            exact absurd H (by simp)
        · rw [if_neg c9] at H
          exact absurd H (by simp)
      · rw [if_neg c7] at H
        exact absurd H (by simp)
    · rw [if_neg c6] at H
      exact absurd H (by simp)
  · rw [if_neg c4] at H
    exact absurd H (by simp)

/-! ### clock_Text: function 9 -/
def clock_Text.f (a0 : Int) : Option (ByteArray × Int) := (clock_within.f a0 86400000000).bind fun t116 => (if t116 = true then ((clock_text.f (IntKind.u64.wrap (a0))).bind fun t117 => (some (t117, 0))) else (some ((⟨#[]⟩ : ByteArray), 10)))
set_option maxHeartbeats 8000000 in
set_option maxRecDepth 100000 in
theorem clock_Text.calls (a0 : Int) (r1 : ByteArray) (r2 : Int) (w : World) (h : clock_Text.f a0 = some (r1, r2)) :
    Calls Try.prog 9 #[.int .i64 a0] w fun e w' => e = .returned (.tuple #[.string r1, .int .i64 r2]) ∧ Below w.heap.size w w' := by
  have HB := Aside0.mk (Below.refl w.heap.size w)
  have H : ((clock_within.f a0 86400000000).bind fun t116 => (if t116 = true then ((clock_text.f (IntKind.u64.wrap (a0))).bind fun t117 => (some (t117, 0))) else (some ((⟨#[]⟩ : ByteArray), 10)))) = some (r1, r2) := h
  clear h
  replace H := Option.bind_eq_some_iff.mp H
  obtain ⟨t116, A20, H⟩ := H
  replace H : (if t116 = true then ((clock_text.f (IntKind.u64.wrap (a0))).bind fun t117 => (some (t117, 0))) else (some ((⟨#[]⟩ : ByteArray), 10))) = some (r1, r2) := H
  have A2 := Aside0.mk A20
  clear A20
  by_cases c3 : t116 = true
  · subst c3
    have H1 : ((clock_text.f (IntKind.u64.wrap (a0))).bind fun t117 => (some (t117, 0))) = some (r1, r2) := by rw [if_pos rfl] at H; exact H
    clear H
    have H := H1
    clear H1
    replace H := Option.bind_eq_some_iff.mp H
    obtain ⟨t117, A40, H⟩ := H
    replace H : (some (t117, 0)) = some (r1, r2) := H
    have A4 := Aside0.mk A40
    clear A40
    simp only [Option.some.injEq, Prod.mk.injEq] at H
    obtain ⟨rfl, rfl⟩ := H
    go_enter Try.func9, Try.ntmps9
    go_wp2_with (first | ((with_reducible refine gate_callee (f := 28) rfl ?_); refine goesL_ (some 5) rfl rfl Try.func28 (by kernel_rfl) rfl #[.int .i64 a0, .int .i64 86400000000] rfl (by (try simp only [List.map_toArray, List.map_cons, List.map_nil]); first | done | rfl | (simp only [List.length_drop, List.length_take]; rfl)) ?_; (with_reducible refine (clock_within.calls a0 86400000000 true _ A2.out).mono ?_); rintro e w' ⟨rfl, ⟨nd, rfl⟩⟩; refine ⟨_, rfl, ?_⟩) | ((with_reducible refine gate_callee (f := 29) rfl ?_); refine goesL_ (some 9) rfl rfl Try.func29 (by kernel_rfl) rfl #[.int .u64 (IntKind.u64.wrap (a0))] rfl (by (try simp only [List.map_toArray, List.map_cons, List.map_nil]); first | done | rfl | (simp only [List.length_drop, List.length_take]; rfl)) ?_; (with_reducible refine (clock_text.calls (IntKind.u64.wrap (a0)) t117 _ A4.out).mono ?_); rintro e w5 ⟨rfl, hb⟩; refine ⟨_, rfl, ?_⟩; have n0_ := Aside0.mk (below_step (by repeat (first | (with_reducible first | exact HB.out | apply below_alloc | apply pw_below_drewN | apply below_drew1) | exact HB.out)) hb); clear HB; have HB := n0_; clear n0_; (try clear hb); (try clear hb2); (try clear hk); (try clear hi)))
    go_ret2
    exact ⟨by first | rfl | (simp [errW_none, errW_some] <;> rfl) | (simp [*, errW_none, errW_some] <;> rfl), by repeat (first | (with_reducible first | exact HB.out | apply below_alloc | apply pw_below_drewN | apply below_drew1) | exact HB.out)⟩
  · replace c3 := Bool.eq_false_iff.mpr c3
    subst c3
    have H1 : (some ((⟨#[]⟩ : ByteArray), 10)) = some (r1, r2) := by rw [if_neg (show ¬ (false = true) by decide)] at H; exact H
    clear H
    have H := H1
    clear H1
    simp only [Option.some.injEq, Prod.mk.injEq] at H
    obtain ⟨rfl, rfl⟩ := H
    go_enter Try.func9, Try.ntmps9
    go_wp2_with (first | ((with_reducible refine gate_callee (f := 28) rfl ?_); refine goesL_ (some 5) rfl rfl Try.func28 (by kernel_rfl) rfl #[.int .i64 a0, .int .i64 86400000000] rfl (by (try simp only [List.map_toArray, List.map_cons, List.map_nil]); first | done | rfl | (simp only [List.length_drop, List.length_take]; rfl)) ?_; (with_reducible refine (clock_within.calls a0 86400000000 false _ A2.out).mono ?_); rintro e w' ⟨rfl, ⟨nd, rfl⟩⟩; refine ⟨_, rfl, ?_⟩))
    go_ret2
    exact ⟨by first | rfl | (simp [errW_none, errW_some] <;> rfl) | (simp [*, errW_none, errW_some] <;> rfl), by repeat (first | (with_reducible first | exact HB.out | apply below_alloc | apply pw_below_drewN | apply below_drew1) | exact HB.out)⟩

/-! ### clock_Long: function 15 -/
def clock_Long.f (a0 : Int) : Option (ByteArray) := if a0 < 0 then ((clock_text.f (IntKind.u64.wrap (-(IntKind.u64.wrap (a0))))).bind fun t118 => (if 1 + t118.size ≤ 9223372036854775807 then (some ((⟨#[45]⟩ : ByteArray) ++ t118)) else (none))) else ((clock_text.f (IntKind.u64.wrap (a0))).bind fun t119 => (some t119))
set_option maxHeartbeats 8000000 in
set_option maxRecDepth 100000 in
theorem clock_Long.calls (a0 : Int) (r : ByteArray) (w : World) (h : clock_Long.f a0 = some r) :
    Calls Try.prog 15 #[.int .i64 a0] w fun e w' => e = .returned (.string r) ∧ Below w.heap.size w w' := by
  have HB := Aside0.mk (Below.refl w.heap.size w)
  have H : (if a0 < 0 then ((clock_text.f (IntKind.u64.wrap (-(IntKind.u64.wrap (a0))))).bind fun t118 => (if 1 + t118.size ≤ 9223372036854775807 then (some ((⟨#[45]⟩ : ByteArray) ++ t118)) else (none))) else ((clock_text.f (IntKind.u64.wrap (a0))).bind fun t119 => (some t119))) = some r := h
  clear h
  by_cases c2 : a0 < 0
  · rw [if_pos c2] at H
    have c2b0 : decide (a0 < 0) = true := decide_eq_true c2
    clear c2
    replace H := Option.bind_eq_some_iff.mp H
    obtain ⟨t118, A30, H⟩ := H
    replace H : (if 1 + t118.size ≤ 9223372036854775807 then (some ((⟨#[45]⟩ : ByteArray) ++ t118)) else (none)) = some r := H
    have A3 := Aside0.mk A30
    clear A30
    by_cases c4 : 1 + t118.size ≤ 9223372036854775807
    · rw [if_pos c4] at H
      have c4b0 := eq_true c4
      have c4b1 : decide (1 + t118.size ≤ 9223372036854775807) = true := decide_eq_true c4
      try have c4b2 : (9223372036854775807 < 1 + t118.size) = False := eq_false (Nat.not_lt.2 c4)
      obtain rfl := Option.some.inj H
      go_enter Try.func15, Try.ntmps15
      go_wp2_with (first | ((with_reducible refine gate_callee (f := 29) rfl ?_); refine goesL_ (some 8) rfl rfl Try.func29 (by kernel_rfl) rfl #[.int .u64 (IntKind.u64.wrap (-(IntKind.u64.wrap (a0))))] rfl (by (try simp only [List.map_toArray, List.map_cons, List.map_nil]); first | done | rfl | (simp only [List.length_drop, List.length_take]; rfl)) ?_; (with_reducible refine (clock_text.calls (IntKind.u64.wrap (-(IntKind.u64.wrap (a0)))) t118 _ A3.out).mono ?_); rintro e w5 ⟨rfl, hb⟩; refine ⟨_, rfl, ?_⟩; have n0_ := Aside0.mk (below_step (by repeat (first | (with_reducible first | exact HB.out | apply below_alloc | apply pw_below_drewN | apply below_drew1) | exact HB.out)) hb); clear HB; have HB := n0_; clear n0_; (try clear hb); (try clear hb2); (try clear hk); (try clear hi)))
      go_ret
      exact ⟨by first | rfl | (simp [errW_none, errW_some] <;> rfl) | (simp [*, errW_none, errW_some] <;> rfl), by repeat (first | (with_reducible first | exact HB.out | apply below_alloc | apply pw_below_drewN | apply below_drew1) | exact HB.out)⟩
    · rw [if_neg c4] at H
      exact absurd H (by simp)
  · rw [if_neg c2] at H
    have c2b0 : decide (a0 < 0) = false := decide_eq_false c2
    clear c2
    replace H := Option.bind_eq_some_iff.mp H
    obtain ⟨t119, A60, H⟩ := H
    replace H : (some t119) = some r := H
    have A6 := Aside0.mk A60
    clear A60
    obtain rfl := Option.some.inj H
    go_enter Try.func15, Try.ntmps15
    go_wp2_with (first | ((with_reducible refine gate_callee (f := 29) rfl ?_); refine goesL_ (some 12) rfl rfl Try.func29 (by kernel_rfl) rfl #[.int .u64 (IntKind.u64.wrap (a0))] rfl (by (try simp only [List.map_toArray, List.map_cons, List.map_nil]); first | done | rfl | (simp only [List.length_drop, List.length_take]; rfl)) ?_; (with_reducible refine (clock_text.calls (IntKind.u64.wrap (a0)) t119 _ A6.out).mono ?_); rintro e w7 ⟨rfl, hb⟩; refine ⟨_, rfl, ?_⟩; have n0_ := Aside0.mk (below_step (by repeat (first | (with_reducible first | exact HB.out | apply below_alloc | apply pw_below_drewN | apply below_drew1) | exact HB.out)) hb); clear HB; have HB := n0_; clear n0_; (try clear hb); (try clear hb2); (try clear hk); (try clear hi)))
    go_ret
    exact ⟨by first | rfl | (simp [errW_none, errW_some] <;> rfl) | (simp [*, errW_none, errW_some] <;> rfl), by repeat (first | (with_reducible first | exact HB.out | apply below_alloc | apply pw_below_drewN | apply below_drew1) | exact HB.out)⟩

/-! ### clock_Make: function 20 -/
def clock_Make.j0 : Nat → Int → Int → Int → Int → Bool → Option (Int × Int)
  | 0, _, _, _, _, _ => none
  | k + 1, x0, x1, x2, x3, x28 => if x28 = true then (some (0, 10)) else (if (wrap64 ((wrap64 ((wrap64 ((wrap64 (x0 * 3600000000)) + (wrap64 (x1 * 60000000)))) + (wrap64 (x2 * 1000000)))) + x3)) > 86400000000 then (some (0, 10)) else (some (wrap64 ((wrap64 ((wrap64 ((wrap64 (x0 * 3600000000)) + (wrap64 (x1 * 60000000)))) + (wrap64 (x2 * 1000000)))) + x3), 0)))
def clock_Make.f (k : Nat) (a0 : Int) (a1 : Int) (a2 : Int) (a3 : Int) : Option (Int × Int) := (clock_within.f a0 24).bind fun t120 => (if t120 = true then ((clock_within.f a1 59).bind fun t121 => (if t121 = true then ((clock_within.f a2 59).bind fun t122 => (if t122 = true then ((clock_within.f a3 999999).bind fun t123 => (clock_Make.j0 k a0 a1 a2 a3 (!t123))) else (clock_Make.j0 k a0 a1 a2 a3 true))) else (clock_Make.j0 k a0 a1 a2 a3 true))) else (clock_Make.j0 k a0 a1 a2 a3 true))
theorem clock_Make.mono_l : ∀ k, (∀ y0 y1 y2 y3 y4, LeO (clock_Make.j0 k y0 y1 y2 y3 y4) (clock_Make.j0 (k + 1) y0 y1 y2 y3 y4))
  | 0 => fun _ _ _ _ _ r h => by simp [clock_Make.j0] at h
  | k + 1 => by
    have ih0 := clock_Make.mono_l k
    · intro y0 y1 y2 y3 y4
      unfold clock_Make.j0
      repeat' first
      | (with_reducible exact ih0 _ _ _ _ _)
      | (with_reducible exact LeO.refl _)
      | (with_reducible exact LeO.none _)
      | (with_reducible refine LeO.ite ?_ ?_)
      | (with_reducible refine LeO.bind ?_ (fun _ => ?_))
      | exact ih0 _ _ _ _ _
      | exact LeO.none _
      | refine LeO.ite ?_ ?_
      | refine LeO.bind ?_ (fun _ => ?_)
theorem clock_Make.mono : ∀ a0 a1 a2 a3 k, LeO (clock_Make.f k a0 a1 a2 a3) (clock_Make.f (k + 1) a0 a1 a2 a3) := by
  intro a0 a1 a2 a3 k
  have ih0 := clock_Make.mono_l k
  unfold clock_Make.f
  repeat' first
      | (with_reducible exact ih0 _ _ _ _ _)
      | (with_reducible exact LeO.refl _)
      | (with_reducible exact LeO.none _)
      | (with_reducible refine LeO.ite ?_ ?_)
      | (with_reducible refine LeO.bind ?_ (fun _ => ?_))
      | exact ih0 _ _ _ _ _
      | exact LeO.none _
      | refine LeO.ite ?_ ?_
      | refine LeO.bind ?_ (fun _ => ?_)
set_option maxHeartbeats 8000000 in
set_option maxRecDepth 100000 in
theorem clock_Make.calls (k : Nat) (a0 : Int) (a1 : Int) (a2 : Int) (a3 : Int) (r1 : Int) (r2 : Int) (w : World) (h : clock_Make.f k a0 a1 a2 a3 = some (r1, r2)) :
    Calls Try.prog 20 #[.int .i64 a0, .int .i64 a1, .int .i64 a2, .int .i64 a3] w fun e w' => e = .returned (.tuple #[.int .i64 r1, .int .i64 r2]) ∧ Drawn0 w w' := by
  have H : ((clock_within.f a0 24).bind fun t120 => (if t120 = true then ((clock_within.f a1 59).bind fun t121 => (if t121 = true then ((clock_within.f a2 59).bind fun t122 => (if t122 = true then ((clock_within.f a3 999999).bind fun t123 => (clock_Make.j0 k a0 a1 a2 a3 (!t123))) else (clock_Make.j0 k a0 a1 a2 a3 true))) else (clock_Make.j0 k a0 a1 a2 a3 true))) else (clock_Make.j0 k a0 a1 a2 a3 true))) = some (r1, r2) := h
  clear h
  have HC5 := Aside0.mk H
  clear H
  go_enter Try.func20, Try.ntmps20
  go_upto_region 1 with (fail)
  go_cut [28] (fun v28 wc => ∃ (kq : Nat) (x28_4 : Bool), v28 = .bool x28_4 ∧ Aside0 (clock_Make.j0 kq a0 a1 a2 a3 x28_4 = some (r1, r2)) ∧ Aside0 (kq ≤ k) ∧ Drawn0 w wc)
  case first =>
    have H := HC5.out
    clear HC5
    replace H := Option.bind_eq_some_iff.mp H
    obtain ⟨t120, A60, H⟩ := H
    replace H : (if t120 = true then ((clock_within.f a1 59).bind fun t121 => (if t121 = true then ((clock_within.f a2 59).bind fun t122 => (if t122 = true then ((clock_within.f a3 999999).bind fun t123 => (clock_Make.j0 k a0 a1 a2 a3 (!t123))) else (clock_Make.j0 k a0 a1 a2 a3 true))) else (clock_Make.j0 k a0 a1 a2 a3 true))) else (clock_Make.j0 k a0 a1 a2 a3 true)) = some (r1, r2) := H
    have A6 := Aside0.mk A60
    clear A60
    by_cases c7 : t120 = true
    · subst c7
      have H1 : ((clock_within.f a1 59).bind fun t121 => (if t121 = true then ((clock_within.f a2 59).bind fun t122 => (if t122 = true then ((clock_within.f a3 999999).bind fun t123 => (clock_Make.j0 k a0 a1 a2 a3 (!t123))) else (clock_Make.j0 k a0 a1 a2 a3 true))) else (clock_Make.j0 k a0 a1 a2 a3 true))) = some (r1, r2) := by rw [if_pos rfl] at H; exact H
      clear H
      have H := H1
      clear H1
      replace H := Option.bind_eq_some_iff.mp H
      obtain ⟨t121, A80, H⟩ := H
      replace H : (if t121 = true then ((clock_within.f a2 59).bind fun t122 => (if t122 = true then ((clock_within.f a3 999999).bind fun t123 => (clock_Make.j0 k a0 a1 a2 a3 (!t123))) else (clock_Make.j0 k a0 a1 a2 a3 true))) else (clock_Make.j0 k a0 a1 a2 a3 true)) = some (r1, r2) := H
      have A8 := Aside0.mk A80
      clear A80
      by_cases c9 : t121 = true
      · subst c9
        have H1 : ((clock_within.f a2 59).bind fun t122 => (if t122 = true then ((clock_within.f a3 999999).bind fun t123 => (clock_Make.j0 k a0 a1 a2 a3 (!t123))) else (clock_Make.j0 k a0 a1 a2 a3 true))) = some (r1, r2) := by rw [if_pos rfl] at H; exact H
        clear H
        have H := H1
        clear H1
        replace H := Option.bind_eq_some_iff.mp H
        obtain ⟨t122, A100, H⟩ := H
        replace H : (if t122 = true then ((clock_within.f a3 999999).bind fun t123 => (clock_Make.j0 k a0 a1 a2 a3 (!t123))) else (clock_Make.j0 k a0 a1 a2 a3 true)) = some (r1, r2) := H
        have A10 := Aside0.mk A100
        clear A100
        by_cases c11 : t122 = true
        · subst c11
          have H1 : ((clock_within.f a3 999999).bind fun t123 => (clock_Make.j0 k a0 a1 a2 a3 (!t123))) = some (r1, r2) := by rw [if_pos rfl] at H; exact H
          clear H
          have H := H1
          clear H1
          replace H := Option.bind_eq_some_iff.mp H
          obtain ⟨t123, A120, H⟩ := H
          replace H : (clock_Make.j0 k a0 a1 a2 a3 (!t123)) = some (r1, r2) := H
          have A12 := Aside0.mk A120
          clear A120
          have H' := Aside0.mk H
          clear H
          go_wp2_with (first | ((with_reducible refine gate_callee (f := 28) rfl ?_); refine goesL_ (some 12) rfl rfl Try.func28 (by kernel_rfl) rfl #[.int .i64 a0, .int .i64 24] rfl (by (try simp only [List.map_toArray, List.map_cons, List.map_nil]); first | done | rfl | (simp only [List.length_drop, List.length_take]; rfl)) ?_; (with_reducible refine (clock_within.calls a0 24 true _ A6.out).mono ?_); rintro e w' ⟨rfl, ⟨nd, rfl⟩⟩; refine ⟨_, rfl, ?_⟩) | (go_at_call 28; (with_reducible refine (clock_within.calls a1 59 true _ A8.out).mono ?_); rintro e w' ⟨rfl, ⟨nd, rfl⟩⟩) | (go_at_call 28; (with_reducible refine (clock_within.calls a2 59 true _ A10.out).mono ?_); rintro e w' ⟨rfl, ⟨nd, rfl⟩⟩) | (go_at_call 28; (with_reducible refine (clock_within.calls a3 999999 t123 _ A12.out).mono ?_); rintro e w' ⟨rfl, ⟨nd, rfl⟩⟩))
          go_meet
          case rel => exact ⟨_, (!t123), (by first | rfl | (simp; done) | (simp [*]; done)), H', ⟨by first | omega | exact Nat.le_refl _⟩, by repeat (first | exact Drawn0.refl _ | apply Drawn0.step)⟩
        · replace c11 := Bool.eq_false_iff.mpr c11
          subst c11
          have H1 : (clock_Make.j0 k a0 a1 a2 a3 true) = some (r1, r2) := by rw [if_neg (show ¬ (false = true) by decide)] at H; exact H
          clear H
          have H := H1
          clear H1
          have H' := Aside0.mk H
          clear H
          go_wp2_with (first | ((with_reducible refine gate_callee (f := 28) rfl ?_); refine goesL_ (some 12) rfl rfl Try.func28 (by kernel_rfl) rfl #[.int .i64 a0, .int .i64 24] rfl (by (try simp only [List.map_toArray, List.map_cons, List.map_nil]); first | done | rfl | (simp only [List.length_drop, List.length_take]; rfl)) ?_; (with_reducible refine (clock_within.calls a0 24 true _ A6.out).mono ?_); rintro e w' ⟨rfl, ⟨nd, rfl⟩⟩; refine ⟨_, rfl, ?_⟩) | (go_at_call 28; (with_reducible refine (clock_within.calls a1 59 true _ A8.out).mono ?_); rintro e w' ⟨rfl, ⟨nd, rfl⟩⟩) | (go_at_call 28; (with_reducible refine (clock_within.calls a2 59 false _ A10.out).mono ?_); rintro e w' ⟨rfl, ⟨nd, rfl⟩⟩))
          go_meet
          case rel => exact ⟨_, (true), (by first | rfl | (simp; done) | (simp [*]; done)), H', ⟨by first | omega | exact Nat.le_refl _⟩, by repeat (first | exact Drawn0.refl _ | apply Drawn0.step)⟩
      · replace c9 := Bool.eq_false_iff.mpr c9
        subst c9
        have H1 : (clock_Make.j0 k a0 a1 a2 a3 true) = some (r1, r2) := by rw [if_neg (show ¬ (false = true) by decide)] at H; exact H
        clear H
        have H := H1
        clear H1
        have H' := Aside0.mk H
        clear H
        go_wp2_with (first | ((with_reducible refine gate_callee (f := 28) rfl ?_); refine goesL_ (some 12) rfl rfl Try.func28 (by kernel_rfl) rfl #[.int .i64 a0, .int .i64 24] rfl (by (try simp only [List.map_toArray, List.map_cons, List.map_nil]); first | done | rfl | (simp only [List.length_drop, List.length_take]; rfl)) ?_; (with_reducible refine (clock_within.calls a0 24 true _ A6.out).mono ?_); rintro e w' ⟨rfl, ⟨nd, rfl⟩⟩; refine ⟨_, rfl, ?_⟩) | (go_at_call 28; (with_reducible refine (clock_within.calls a1 59 false _ A8.out).mono ?_); rintro e w' ⟨rfl, ⟨nd, rfl⟩⟩))
        go_meet
        case rel => exact ⟨_, (true), (by first | rfl | (simp; done) | (simp [*]; done)), H', ⟨by first | omega | exact Nat.le_refl _⟩, by repeat (first | exact Drawn0.refl _ | apply Drawn0.step)⟩
    · replace c7 := Bool.eq_false_iff.mpr c7
      subst c7
      have H1 : (clock_Make.j0 k a0 a1 a2 a3 true) = some (r1, r2) := by rw [if_neg (show ¬ (false = true) by decide)] at H; exact H
      clear H
      have H := H1
      clear H1
      have H' := Aside0.mk H
      clear H
      go_wp2_with (first | ((with_reducible refine gate_callee (f := 28) rfl ?_); refine goesL_ (some 12) rfl rfl Try.func28 (by kernel_rfl) rfl #[.int .i64 a0, .int .i64 24] rfl (by (try simp only [List.map_toArray, List.map_cons, List.map_nil]); first | done | rfl | (simp only [List.length_drop, List.length_take]; rfl)) ?_; (with_reducible refine (clock_within.calls a0 24 false _ A6.out).mono ?_); rintro e w' ⟨rfl, ⟨nd, rfl⟩⟩; refine ⟨_, rfl, ?_⟩))
      go_meet
      case rel => exact ⟨_, (true), (by first | rfl | (simp; done) | (simp [*]; done)), H', ⟨by first | omega | exact Nat.le_refl _⟩, by repeat (first | exact Drawn0.refl _ | apply Drawn0.step)⟩
  case rest =>
    clear HC5
    try clear c1
    try clear c2
    try clear p2
    try clear c7
    try clear c9
    try clear c11
    obtain ⟨kq, x28_4, rfl, HA, HJ4, ⟨mc4, rfl⟩⟩ := hcut
    cases kq with
    | zero => exact absurd HA.out (by simp [clock_Make.j0])
    | succ kj4 =>
      have H := HA.out
      clear HA
      simp only [clock_Make.j0] at H
      by_cases c13 : x28_4 = true
      · subst c13
        have H1 : (some (0, 10)) = some (r1, r2) := by rw [if_pos rfl] at H; exact H
        clear H
        have H := H1
        clear H1
        simp only [Option.some.injEq, Prod.mk.injEq] at H
        obtain ⟨rfl, rfl⟩ := H
        go_wp2
        go_ret2
        exact ⟨by first | rfl | (simp; done) | (simp [*]; done), by repeat (first | exact Drawn0.refl _ | apply Drawn0.step)⟩
      · replace c13 := Bool.eq_false_iff.mpr c13
        subst c13
        have H1 : (if (wrap64 ((wrap64 ((wrap64 ((wrap64 (a0 * 3600000000)) + (wrap64 (a1 * 60000000)))) + (wrap64 (a2 * 1000000)))) + a3)) > 86400000000 then (some (0, 10)) else (some (wrap64 ((wrap64 ((wrap64 ((wrap64 (a0 * 3600000000)) + (wrap64 (a1 * 60000000)))) + (wrap64 (a2 * 1000000)))) + a3), 0))) = some (r1, r2) := by rw [if_neg (show ¬ (false = true) by decide)] at H; exact H
        clear H
        have H := H1
        clear H1
        by_cases c14 : (wrap64 ((wrap64 ((wrap64 ((wrap64 (a0 * 3600000000)) + (wrap64 (a1 * 60000000)))) + (wrap64 (a2 * 1000000)))) + a3)) > 86400000000
        · rw [if_pos c14] at H
          have c14b0 : decide (86400000000 < (wrap64 ((wrap64 ((wrap64 ((wrap64 (a0 * 3600000000)) + (wrap64 (a1 * 60000000)))) + (wrap64 (a2 * 1000000)))) + a3))) = true := decide_eq_true c14
          clear c14
          simp only [Option.some.injEq, Prod.mk.injEq] at H
          obtain ⟨rfl, rfl⟩ := H
          go_wp2
          go_ret2
          exact ⟨by first | rfl | (simp; done) | (simp [*]; done), by repeat (first | exact Drawn0.refl _ | apply Drawn0.step)⟩
        · rw [if_neg c14] at H
          have c14b0 : decide (86400000000 < (wrap64 ((wrap64 ((wrap64 ((wrap64 (a0 * 3600000000)) + (wrap64 (a1 * 60000000)))) + (wrap64 (a2 * 1000000)))) + a3))) = false := decide_eq_false c14
          clear c14
          simp only [Option.some.injEq, Prod.mk.injEq] at H
          obtain ⟨rfl, rfl⟩ := H
          go_wp2
          go_ret2
          exact ⟨by first | rfl | (simp; done) | (simp [*]; done), by repeat (first | exact Drawn0.refl _ | apply Drawn0.step)⟩

end Go.Proofs.Ytecijnjnhdjokaa.PClockF
