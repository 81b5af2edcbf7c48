-- Written by a program of this session (mkprint.py, over the kit's print), out of the translation and of the contracts that the session gives.
import Derived.Test.YtohhmnbcaflppaaDoorPLinex0
import Derived.Test.YtohhmnbcaflppaaDoorPLinex1
import Derived.Test.YtohhmnbcaflppaaDoorPLinex2
import Derived.Test.YtohhmnbcaflppaaDoorPLinex3
namespace Go.Proofs.YtohhmnbcaflppaaDoor.PLine
open Go.RowKit Go.Proofs.YtohhmnbcaflppaaDoorW.PrintWords Go.Proofs.YtohhmnbcaflppaaDoorW.PrintLast Go.Proofs.YtohhmnbcaflppaaDoorW.PrintMore
attribute [local go_sem] max2_int min2_int max_two min_two max_three min_three max_four min_four   -- for this text's walks alone
set_option linter.unusedVariables false
set_option linter.unusedSimpArgs false

/-! ### computuslaw06_taken: function 11 -/
def computuslaw06_taken.l0 : Nat → List (S43) → List (S44) → Int → Option ((List (S44)))
  | 0, _, _, _ => none
  | k + 1, x0, x3, x4 => if x4 < (x0.length : Int) then (if 0 ≤ x4 then (if x3.length < 4398046511104 then (computuslaw06_taken.l0 k x0 (x3 ++ [(⟨(rd_T43 x0 x4).f0, (rd_T43 x0 x4).f1⟩ : S44)]) (wrap64 (x4 + 1))) else (none)) else (none)) else (some x3)
def computuslaw06_taken.f (k : Nat) (l0 : List (S43)) : Option ((List (S44))) := computuslaw06_taken.l0 k l0 ([] : List (S44)) 0
theorem computuslaw06_taken.mono_l : ∀ k, (∀ y0 y1 y2, LeO (computuslaw06_taken.l0 k y0 y1 y2) (computuslaw06_taken.l0 (k + 1) y0 y1 y2))
  | 0 => fun _ _ _ r h => by simp [computuslaw06_taken.l0] at h
  | k + 1 => by
    have ih0 := computuslaw06_taken.mono_l k
    · intro y0 y1 y2
      unfold computuslaw06_taken.l0
      repeat' first
      | (with_reducible exact ih0 _ _ _)
      | (with_reducible exact LeO.refl _)
      | (with_reducible exact LeO.none _)
      | (with_reducible refine LeO.ite ?_ ?_)
      | (with_reducible refine LeO.bind ?_ (fun _ => ?_))
      | exact ih0 _ _ _
      | exact LeO.none _
      | refine LeO.ite ?_ ?_
      | refine LeO.bind ?_ (fun _ => ?_)
theorem computuslaw06_taken.mono : ∀ a0 k, LeO (computuslaw06_taken.f k a0) (computuslaw06_taken.f (k + 1) a0) := by
  intro a0 k
  have ih0 := computuslaw06_taken.mono_l k
  unfold computuslaw06_taken.f
  repeat' first
      | (with_reducible exact ih0 _ _ _)
      | (with_reducible exact LeO.refl _)
      | (with_reducible exact LeO.none _)
      | (with_reducible refine LeO.ite ?_ ?_)
      | (with_reducible refine LeO.bind ?_ (fun _ => ?_))
      | exact ih0 _ _ _
      | exact LeO.none _
      | refine LeO.ite ?_ ?_
      | refine LeO.bind ?_ (fun _ => ?_)
def computuslaw06_taken.T5 : Bool × List (List Nat × List Nat) := (true, [([], []), ([], []), ([], []), ([1, 2], [1, 2]), ([3], [3]), ([4], [4]), ([], []), ([], []), ([6, 7], [6, 7]), ([8], [8]), ([9], [9]), ([5, 10], [5, 10]), ([11], [11]), ([0, 12], [0, 12]), ([13, 13, 0, 1, 2, 3, 4, 5, 6, 7, 8, 9, 10, 11, 12, 13], [0, 13])])
def computuslaw06_taken.B5 : List Nat := [0, 0, 0, 6, 14, 30, 0, 0, 192, 448, 960, 2046, 4094, 8191, 16383]
theorem computuslaw06_taken.tab5 : rtab .any (opsOf Tryd.f11 5) = computuslaw06_taken.T5 := by kernel_rfl
theorem computuslaw06_taken.bits5 : waitsOk computuslaw06_taken.T5.2 computuslaw06_taken.B5 = true := by kernel_rfl
set_option maxHeartbeats 8000000 in
set_option maxRecDepth 100000 in
theorem computuslaw06_taken.calls (k : Nat) (P0_ : Nat → Prop) (A0 : Option Addr) (c0 : Nat) (l0 : List (S43)) (r : List (S44)) (w : World) (hs0 : Kd.V k43 43 w w.heap.size (fun k_ => P0_ k_) (.slice A0 l0.length c0) l0) (h : computuslaw06_taken.f k l0 = some r) :
    Calls Tryd.prog 11 #[.slice A0 l0.length c0] w fun e w' => ∃ v0_ : Value, e = .returned (v0_) ∧ Kd.N k44 44 w' w.heap.size (fun k_ => (P0_ k_ ∨ w.heap.size ≤ k_)) v0_ r ∧ Below w.heap.size w w' := by
  have hu44 := Tryd.underlying44
  have HO0 := Aside0.mk (show Kd.V k43 43 w w.heap.size (fun k_ => (P0_ k_ ∨ w.heap.size ≤ k_)) (.slice A0 l0.length c0) l0 from Kd.V_mono hs0 (fun k_ hk => .inl hk))
  have HB := Aside0.mk (Below.refl w.heap.size w)
  have H : (computuslaw06_taken.l0 k l0 ([] : List (S44)) 0) = some r := h
  clear h
  have H' := Aside0.mk H
  clear H
  go_enter Tryd.func11, Tryd.ntmps11
  go_wp2
  go_loopg [3, 4] k (fun kq v3 v4 w' => ∃ (x3_1 : List (S44)) (x4_1 : Int), v4 = .int .i64 x4_1 ∧ Aside0 (computuslaw06_taken.l0 kq l0 x3_1 x4_1 = some r) ∧ Aside0 (kq ≤ k) ∧ Aside0 (Kd.V k43 43 w' w.heap.size (fun k_ => (P0_ k_ ∨ w.heap.size ≤ k_) ∧ some k_ ≠ (v3 : Value).ownBlock) (.slice A0 l0.length c0) l0) ∧ Aside0 (Kd.N k44 44 w' w.heap.size (fun k_ => (P0_ k_ ∨ w.heap.size ≤ k_)) v3 x3_1) ∧ Aside0 (Below w.heap.size w w'))
  case atStart => exact ⟨(([] : List (S44))), (0), (by first | rfl | (simp; done) | (simp [*]; done)), H', ⟨Nat.le_refl _⟩, ⟨by (with_reducible repeat (first | apply Kd.V_alloc | apply Kd.V_drewN | apply Kd.V_drew)); exact Kd.V_mono HO0.out (fun _ hk => ⟨hk, (by simp [Value.ownBlock])⟩)⟩, ⟨by first | exact Kd.S_nil _ _ _ _ _ | exact Kd.N_nil _ _ _ _ _ | exact Kd.V_nil _ _ _ _ _ | exact Kd.Q_nil _ _ _ _ _ | exact Kd.R_nil _ _ _ _ _⟩, ⟨by repeat (first | (with_reducible first | exact HB.out | apply below_alloc | apply pw_below_drewN | apply below_drew1) | exact HB.out)⟩⟩
  case round =>
    clear H'
    try clear c1
    obtain ⟨x3_1, x4_1, rfl, HA, HK1, HO_0, HO_3, HB⟩ := hrel
    cases gk with
    | zero => exact absurd HA.out (by simp [computuslaw06_taken.l0])
    | succ k1 =>
      have H := HA.out
      clear HA
      simp only [computuslaw06_taken.l0] at H
      by_cases c2 : x4_1 < (l0.length : Int)
      · rw [if_pos c2] at H
        have c2b0 : decide (x4_1 < (l0.length : Int)) = true := decide_eq_true c2
        clear c2
        by_cases c3 : 0 ≤ x4_1
        · rw [if_pos c3] at H
          have c3b0 : decide (0 ≤ x4_1) = true := decide_eq_true c3
          clear c3
          by_cases c4 : x3_1.length < 4398046511104
          · rw [if_pos c4] at H
            have LMc4 := Aside0.mk c4
            clear c4
            obtain ⟨y133, hy133⟩ : ∃ y_ : List (S44), y_ = (x3_1 ++ [(⟨(rd_T43 l0 x4_1).f0, (rd_T43 l0 x4_1).f1⟩ : S44)]) := ⟨_, rfl⟩
            replace H : (computuslaw06_taken.l0 k1 l0 y133 (wrap64 (x4_1 + 1))) = some r := by first | (rw [hy133]; with_reducible exact H) | (have H2_ := (Option.bind_some _ _).symm.trans H; rw [hy133]; with_reducible exact H2_) | (have H2_ := (Option.bind_some _ _).symm.trans H; with_reducible exact H2_) | with_reducible exact H | (rw [hy133]; exact H) | exact H
            have Ny133 := Aside0.mk hy133
            clear hy133
            have H' := Aside0.mk H
            clear H
            try go_wp2
            have n0_ := Aside0.mk (Kd.V_drew HO_0.out)
            have n1_ := Aside0.mk (Kd.N_drew HO_3.out)
            have n2_ := Aside0.mk (below_drew1 HB.out)
            clear HO_0
            clear HO_3
            clear HB
            have HO_0 := n0_
            have HO_3 := n1_
            have HB := n2_
            clear n0_ n1_ n2_
            have p131 : 0 ≤ (x4_1 : Int) := of_decide_eq_true (by first | (with_reducible assumption) | assumption)
            have q131 : x4_1 < (l0.length : Int) := of_decide_eq_true (by first | (with_reducible assumption) | assumption)
            obtain ⟨ad131, A131_1, c131_1, e131, hx131_0, hx131_1, hl131_1, hi131_1⟩ := at_T43 (Kd.V_reads' HO_0.out).2.2 x4_1 p131 q131
            cases e131
            obtain ⟨ce131, hce131, hMe131, hcc131⟩ := Kd.V_get HO_0.out z43 x4_1 p131 (by first | exact q131 | exact of_decide_eq_true (by first | (with_reducible assumption) | assumption) | (have e_ := (Kd.V_reads' HO_0.out).1; omega))
            obtain ⟨ua131_1, uc131_1, rfl, ul131_1, ge131_1⟩ := k43_openF hMe131
            have hv131_1 := hcc131 1 _ rfl
            rw [add_field _ _ 1 (by omega)] at hv131_1
            replace hv131_1 := Option.some.inj (hv131_1.symm.trans hx131_1)
            injection hv131_1 with hva_ hvn_ hvc_
            rw [hva_] at ge131_1
            rw [hvc_] at ul131_1
            have HL131_1 := Aside0.mk (show Kd.V Kd.string 9 _ w.heap.size _ _ ((rd_T43 l0 x4_1).f1) from Kd.V_mk ul131_1 ge131_1)
            clear hva_ hvn_ hvc_ ge131_1 ul131_1
            clear hcc131 hce131
            have HR131_1 := Aside0.mk hi131_1
            have HC131_1 := Aside0.mk hl131_1
            clear hi131_1 hl131_1
            replace p131 := eq_true p131
            replace q131 := eq_true q131
            have p132 : 0 ≤ (x4_1 : Int) := of_decide_eq_true (by first | (with_reducible assumption) | assumption)
            have q132 : x4_1 < (l0.length : Int) := of_decide_eq_true (by first | (with_reducible assumption) | assumption)
            obtain ⟨ad132, A132_1, c132_1, e132, hx132_0, hx132_1, hl132_1, hi132_1⟩ := at_T43 (Kd.V_reads' HO_0.out).2.2 x4_1 p132 q132
            obtain rfl : ad131 = ad132 := (by injection e132)
            obtain ⟨ce132, hce132, hMe132, hcc132⟩ := Kd.V_get HO_0.out z43 x4_1 p132 (by first | exact q132 | exact of_decide_eq_true (by first | (with_reducible assumption) | assumption) | (have e_ := (Kd.V_reads' HO_0.out).1; omega))
            obtain ⟨ua132_1, uc132_1, rfl, ul132_1, ge132_1⟩ := k43_openF hMe132
            have hv132_1 := hcc132 1 _ rfl
            rw [add_field _ _ 1 (by omega)] at hv132_1
            replace hv132_1 := Option.some.inj (hv132_1.symm.trans hx132_1)
            injection hv132_1 with hva_ hvn_ hvc_
            rw [hva_] at ge132_1
            rw [hvc_] at ul132_1
            have HL132_1 := Aside0.mk (show Kd.V Kd.string 9 _ w.heap.size _ _ ((rd_T43 l0 x4_1).f1) from Kd.V_mk ul132_1 ge132_1)
            clear hva_ hvn_ hvc_ ge132_1 ul132_1
            clear hcc132 hce132
            have HR132_1 := Aside0.mk hi132_1
            have HC132_1 := Aside0.mk hl132_1
            clear hi132_1 hl132_1
            replace p132 := eq_true p132
            replace q132 := eq_true q132
            have ea_ := Option.some.inj (hx131_1.symm.trans hx132_1)
            injection ea_ with ea_ en_ ec_
            subst ea_
            subst ec_
            clear en_
            refine start_ (n := 15) (S := fun w' => w'.cell? (ad131.add ((x4_1).toNat * 2)) = some (.int .i64 ((rd_T43 l0 x4_1).f0)) ∧ w'.cell? ⟨(ad131.add ((x4_1).toNat * 2)).block, (ad131.add ((x4_1).toNat * 2)).off + 1, none⟩ = some (.slice A131_1 ((rd_T43 l0 x4_1).f1).length c131_1) ∧ w'.cell? (ad131.add ((x4_1).toNat * 2)) = some (.int .i64 ((rd_T43 l0 x4_1).f0)) ∧ w'.cell? ⟨(ad131.add ((x4_1).toNat * 2)).block, (ad131.add ((x4_1).toNat * 2)).off + 1, none⟩ = some (.slice A131_1 ((rd_T43 l0 x4_1).f1).length c131_1)) (ds := [12, 13]) #[false, false, false, false, false, false, false, false, false, false, false, false, false, false, false] (by kernel_rfl) rfl rfl ⟨hx131_0, hx131_1, hx132_0, hx132_1⟩ (fun hHeld => ?_); refine with_tabW computuslaw06_taken.tab5 computuslaw06_taken.bits5 (fun HT_ HW_ => ?_)
            generalize wr.drew = w5 at HO_0 HO_3 HB HL131_1 HL132_1 HR131_1 HR132_1 hx131_0 hx131_1 hx132_0 hx132_1 hHeld ⊢
            refine pure_ (i := 0) (N := some 11) (v := ?_) (a' := ?_) #[true, false, false, false, false, false, false, false, false, false, false, false, false, false, false] rfl rfl (any_of HT_.out (by kernel_rfl)) (fun _ _ _ h => h) (Or.inl ⟨by rfl, ?_⟩) ?_ ?_
            rotate_left
            · intro w'
              go_simp
              with_reducible rfl
            rotate_left
            · simp only [Act.put, List.setIfInBounds_toArray, List.set_cons_zero, List.set_cons_succ, i64_w, i32_w]
              rfl
            refine pure_ (i := 1) (N := some 12) (v := ?_) (a' := ?_) #[true, true, false, false, false, false, false, false, false, false, false, false, false, false, false] rfl rfl (any_of HT_.out (by kernel_rfl)) (fun _ _ _ h => h) (Or.inl ⟨by rfl, ?_⟩) ?_ ?_
            rotate_left
            · intro w'
              go_simp
              with_reducible rfl
            rotate_left
            · simp only [Act.put, List.setIfInBounds_toArray, List.set_cons_zero, List.set_cons_succ, i64_w, i32_w]
              rfl
            refine pure_ (i := 2) (N := some 13) (v := ?_) (a' := ?_) #[true, true, true, false, false, false, false, false, false, false, false, false, false, false, false] rfl rfl (any_of HT_.out (by kernel_rfl)) (fun _ _ _ h => h) (Or.inl ⟨by rfl, ?_⟩) ?_ ?_
            rotate_left
            · intro w'
              go_simp
              with_reducible rfl
            rotate_left
            · simp only [Act.put, List.setIfInBounds_toArray, List.set_cons_zero, List.set_cons_succ, i64_w, i32_w]
              rfl
            refine pure_ (i := 3) (N := some 14) (v := ?_) (a' := ?_) #[true, true, true, true, false, false, false, false, false, false, false, false, false, false, false] rfl rfl (any_of HT_.out (by kernel_rfl)) (fun _ _ _ h => h) (Or.inl ⟨by rfl, ?_⟩) ?_ ?_
            rotate_left
            · intro w'
              go_simp
              with_reducible rfl
            rotate_left
            · simp only [Act.put, List.setIfInBounds_toArray, List.set_cons_zero, List.set_cons_succ, i64_w, i32_w]
              rfl
            refine pure_ (i := 4) (N := some 15) (v := ?_) (a' := ?_) #[true, true, true, true, true, false, false, false, false, false, false, false, false, false, false] rfl rfl (any_of HT_.out (by kernel_rfl)) (fun _ _ _ h => h) (Or.inl ⟨by rfl, ?_⟩) ?_ ?_
            rotate_left
            · intro w'
              go_simp
              with_reducible rfl
            rotate_left
            · simp only [Act.put, List.setIfInBounds_toArray, List.set_cons_zero, List.set_cons_succ, i64_w, i32_w]
              rfl
            refine pure_ (i := 6) (N := some 17) (v := ?_) (a' := ?_) #[true, true, true, true, true, false, true, false, false, false, false, false, false, false, false] rfl rfl (any_of HT_.out (by kernel_rfl)) (fun _ _ _ h => h) (Or.inl ⟨by rfl, ?_⟩) ?_ ?_
            rotate_left
            · intro w'
              go_simp
              with_reducible rfl
            rotate_left
            · simp only [Act.put, List.setIfInBounds_toArray, List.set_cons_zero, List.set_cons_succ, i64_w, i32_w]
              rfl
            refine pure_ (i := 7) (N := some 18) (v := ?_) (a' := ?_) #[true, true, true, true, true, false, true, true, false, false, false, false, false, false, false] rfl rfl (any_of HT_.out (by kernel_rfl)) (fun _ _ _ h => h) (Or.inl ⟨by rfl, ?_⟩) ?_ ?_
            rotate_left
            · intro w'
              go_simp
              with_reducible rfl
            rotate_left
            · simp only [Act.put, List.setIfInBounds_toArray, List.set_cons_zero, List.set_cons_succ, i64_w, i32_w]
              rfl
            refine pure_ (i := 8) (N := some 19) (v := ?_) (a' := ?_) #[true, true, true, true, true, false, true, true, true, false, false, false, false, false, false] rfl rfl (any_of HT_.out (by kernel_rfl)) (fun _ _ _ h => h) (Or.inl ⟨by rfl, ?_⟩) ?_ ?_
            rotate_left
            · intro w'
              go_simp
              with_reducible rfl
            rotate_left
            · simp only [Act.put, List.setIfInBounds_toArray, List.set_cons_zero, List.set_cons_succ, i64_w, i32_w]
              rfl
            refine pure_ (i := 9) (N := some 20) (v := ?_) (a' := ?_) #[true, true, true, true, true, false, true, true, true, true, false, false, false, false, false] rfl rfl (any_of HT_.out (by kernel_rfl)) (fun _ _ _ h => h) (Or.inl ⟨by rfl, ?_⟩) ?_ ?_
            rotate_left
            · intro w'
              go_simp
              with_reducible rfl
            rotate_left
            · simp only [Act.put, List.setIfInBounds_toArray, List.set_cons_zero, List.set_cons_succ, i64_w, i32_w]
              rfl
            refine take_ (i := 5) (N := some 16) (v := ?_) (a' := ?_) #[true, true, true, true, true, true, true, true, true, true, false, false, false, false, false] rfl rfl (take_ofW HT_.out HW_.out (by kernel_rfl)) (fun _ _ _ h => h) (Or.inl ⟨by rfl, ?_⟩) hHeld ?_ ?_
            rotate_left
            · rintro w' ⟨s0, s1, s2, s3⟩
              go_simp
              with_reducible rfl
            rotate_left
            · simp only [Act.put, List.setIfInBounds_toArray, List.set_cons_zero, List.set_cons_succ, i64_w, i32_w]
              rfl
            refine take_ (i := 10) (N := some 21) (v := ?_) (a' := ?_) #[true, true, true, true, true, true, true, true, true, true, true, false, false, false, false] rfl rfl (take_ofW HT_.out HW_.out (by kernel_rfl)) (fun _ _ _ h => h) (Or.inl ⟨by rfl, ?_⟩) hHeld ?_ ?_
            rotate_left
            · rintro w' ⟨s0, s1, s2, s3⟩
              go_simp
              with_reducible rfl
            rotate_left
            · simp only [Act.put, List.setIfInBounds_toArray, List.set_cons_zero, List.set_cons_succ, i64_w, i32_w]
              rfl
            refine pure_ (i := 11) (N := some 22) (v := ?_) (a' := ?_) #[true, true, true, true, true, true, true, true, true, true, true, true, false, false, false] rfl rfl (any_of HT_.out (by kernel_rfl)) (fun _ _ _ h => h) (Or.inl ⟨by rfl, ?_⟩) ?_ ?_
            rotate_left
            · intro w'
              go_simp
              with_reducible rfl
            rotate_left
            · simp only [Act.put, List.setIfInBounds_toArray, List.set_cons_zero, List.set_cons_succ, i64_w, i32_w]
              rfl
            refine last_ (i := 12) (N := some 23) #[true, true, true, true, true, true, true, true, true, true, true, true, true, false, false] rfl rfl (one_of HT_.out (by kernel_rfl)) (by decide) (fun K hK => ?_)
            refine value_ (w1 := ?_) (v := ?_) (by rfl) rfl ?_ ?_
            rotate_left 2
            · go_simp
              constructor
              · rfl
              · rfl
            refine hK.out _ _ ?_
            clear hK K
            refine norm_ (a' := ?_) ?_ ?_
            rotate_left
            · show Act.put _ (some 23) _ = _
              simp only [Act.put, List.setIfInBounds_toArray, List.set_cons_zero, List.set_cons_succ, i64_w, i32_w]
              rfl
            refine last_ (i := 13) (N := some 24) #[true, true, true, true, true, true, true, true, true, true, true, true, true, true, false] rfl rfl (one_of HT_.out (by kernel_rfl)) (by decide) (fun K hK => ?_)
            refine Kd.N_append_step k44 (w0 := w) w.heap.size (by rfl) (.tmp 11) (.tmp 23) 26 44 (.agg #[(.int .i64 0), (.slice none 0 0)]) 32 rfl Tryd.underlying26 info44 rfl (by decide) (by omega) u3 x3_1 (⟨(rd_T43 l0 x4_1).f0, (rd_T43 l0 x4_1).f1⟩ : S44) [.int .i64 ((rd_T43 l0 x4_1).f0), .slice A131_1 ((rd_T43 l0 x4_1).f1).length c131_1] (fun k_ => (P0_ k_ ∨ w.heap.size ≤ k_)) (fun k_ => ((fun k_ => (P0_ k_ ∨ w.heap.size ≤ k_))) k_ ∧ some k_ ≠ (u3 : Value).ownBlock) rfl rfl ?aP (fun _ hk => hk) ?aF ?aO ?aB ?aS ?aL ?_
            (case aP => exact (k44_mkF _ _ (⟨(rd_T43 l0 x4_1).f0, (rd_T43 l0 x4_1).f1⟩ : S44) (Kd.V_reads' (Kd.V_mono (ok' := (fun k_ => ((fun k_ => (P0_ k_ ∨ w.heap.size ≤ k_))) k_ ∧ some k_ ≠ (u3 : Value).ownBlock)) (HL132_1.out) (fun k_ hk => ⟨hk.1, hk.2⟩))).2.1 (Kd.V_F (Kd.V_mono (ok' := (fun k_ => ((fun k_ => (P0_ k_ ∨ w.heap.size ≤ k_))) k_ ∧ some k_ ≠ (u3 : Value).ownBlock)) (HL132_1.out) (fun k_ hk => ⟨hk.1, hk.2⟩)))))
            (case aB => exact (by repeat (first | (with_reducible first | exact HB.out | apply below_alloc | apply pw_below_drewN | apply below_drew1) | exact HB.out)))
            (case aF => exact (fun k_ hk => (.inr (Nat.le_trans (below_size (by repeat (first | (with_reducible first | exact HB.out | apply below_alloc | apply pw_below_drewN | apply below_drew1) | exact HB.out))) hk))))
            (case aO => exact (by (with_reducible repeat (first | apply Kd.N_alloc | apply Kd.N_drewN | apply Kd.N_drew)); exact HO_3.out))
            (case aS => exact (below_size (by repeat (first | (with_reducible first | exact HB.out | apply below_alloc | apply pw_below_drewN | apply below_drew1) | exact HB.out))))
            (case aL => have := LMc4.out; omega)
            intro v134 w6 ho hb hg hat
            rw [← Ny133.out] at ho
            have n0_ := Aside0.mk (Kd.V_afterv (ok := (fun k_ => (P0_ k_ ∨ w.heap.size ≤ k_))) (by (with_reducible repeat (first | apply Kd.V_alloc | apply Kd.V_drewN | apply Kd.V_drew)); exact HO_0.out) hg hat)
            have n1_ := Aside0.mk (Kd.V_afterv (ok := (fun k_ => (P0_ k_ ∨ w.heap.size ≤ k_))) (by (with_reducible repeat (first | apply Kd.V_alloc | apply Kd.V_drewN | apply Kd.V_drew)); exact HL131_1.out) hg hat)
            have n2_ := Aside0.mk (Kd.V_afterv (ok := (fun k_ => (P0_ k_ ∨ w.heap.size ≤ k_))) (by (with_reducible repeat (first | apply Kd.V_alloc | apply Kd.V_drewN | apply Kd.V_drew)); exact HL132_1.out) hg hat)
            have n3_ := Aside0.mk (hb)
            have n4_ := Aside0.mk (ho)
            clear HO_0
            clear HL131_1
            clear HL132_1
            clear HB
            clear HO_3
            have HO_0 := n0_
            have HL131_1 := n1_
            have HL132_1 := n2_
            have HB := n3_
            have HO135 := n4_
            clear n0_ n1_ n2_ n3_ n4_
            clear ho hb hg hat
            refine hK.out _ _ ?_
            clear hK K
            refine norm_ (a' := ?_) ?_ ?_
            rotate_left
            · show Act.put _ (some 24) _ = _
              simp only [Act.put, List.setIfInBounds_toArray, List.set_cons_zero, List.set_cons_succ, i64_w, i32_w]
              rfl
            refine pure_ (i := 14) (N := some 3) (v := ?_) (a' := ?_) #[true, true, true, true, true, true, true, true, true, true, true, true, true, true, true] rfl rfl (any_of HT_.out (by kernel_rfl)) (fun _ _ _ h => h) (Or.inl ⟨by rfl, ?_⟩) ?_ ?_
            rotate_left
            · intro w'
              go_simp
              with_reducible rfl
            rotate_left
            · simp only [Act.put, List.setIfInBounds_toArray, List.set_cons_zero, List.set_cons_succ, i64_w, i32_w]
              rfl
            refine done_ (done_of HT_.out (by kernel_rfl)) ?_
            try go_wp2
            go_roundg k1
            case measure => have := HK1.out; omega
            case rel => exact ⟨(y133), (wrap64 (x4_1 + 1)), (by first | rfl | (simp; done) | (simp [*]; done)), H', ⟨by have := HK1.out; omega⟩, ⟨by (with_reducible repeat (first | apply Kd.V_alloc | apply Kd.V_drewN | apply Kd.V_drew)); exact HO_0.out⟩, ⟨by (with_reducible repeat (first | apply Kd.N_alloc | apply Kd.N_drewN | apply Kd.N_drew)); exact HO135.out⟩, ⟨by repeat (first | (with_reducible first | exact HB.out | apply below_alloc | apply pw_below_drewN | apply below_drew1) | exact HB.out)⟩⟩
          · rw [if_neg c4] at H
            exact absurd H (by simp)
        · rw [if_neg c3] at H
          exact absurd H (by simp)
      · rw [if_neg c2] at H
        have c2b0 : decide (x4_1 < (l0.length : Int)) = false := decide_eq_false c2
        clear c2
        obtain rfl := Option.some.inj H
        go_wp2
        go_ret
        exact ⟨_, by first | rfl | (simp [errW_none, errW_some] <;> rfl) | (simp [*, errW_none, errW_some] <;> rfl), by (with_reducible repeat (first | apply Kd.N_alloc | apply Kd.N_drewN | apply Kd.N_drew)); exact HO_3.out, by repeat (first | (with_reducible first | exact HB.out | apply below_alloc | apply pw_below_drewN | apply below_drew1) | exact HB.out)⟩

/-! ### line_Join: function 14 -/
open Go.Proofs.YtohhmnbcaflppaaDoor.Rd
/-- A line's fields as it is written; before the first there is no blank. -/
def lineL : Bool → List ByteArray → List UInt8
  | _, [] => []
  | first, f :: r => (if first = true then [] else [32]) ++ (fieldB f).data.toList ++ lineL false r
/-- Lines as a source. -/
def joinL : List S43 → List UInt8
  | [] => []
  | x :: r => lineL true x.f1 ++ 10 :: joinL r
/-- 'line.Join'. -/
def line_Join.f (l0 : List S43) : Option ByteArray := if (joinL l0).length ≤ 70368744177664 then some ⟨(joinL l0).toArray⟩ else none
theorem builder_new (w : World) : Lib.IsBuilderF 48 5 w.heap.size w.heap.size [] (w.alloc (.cells #[.pointer none, .slice none 0 0] 48)) :=
  .inl ⟨Nat.le_refl _, .slice none 0 0, heap_alloc_new w _, World.ownsRowF_of (own_nil _ _ _ _), by simp [Value.ownBlock]⟩
theorem fieldB_ge (s : ByteArray) : s.size ≤ (fieldB s).size := by
  unfold fieldB
  split
  · rw [ByteArray.size_append, ByteArray.size_append]
    omega
  · exact Nat.le_refl _
theorem strCells_bytes (s : ByteArray) : Lib.strCells s = Lib.byteCells s.data.toList := rfl
theorem byteCells_app (a b : List UInt8) : Lib.byteCells a ++ Lib.byteCells b = Lib.byteCells (a ++ b) := (List.map_append ..).symm
theorem byteCells_len (a : List UInt8) : (Lib.byteCells a).length = a.length := List.length_map ..
theorem rd_T43_get (l : List S43) (i : Nat) (h : i < l.length) : rd_T43 l (i : Int) = l[i] := by
  unfold rd_T43
  rw [Int.toNat_natCast, List.getD_eq_getElem?_getD, List.getElem?_eq_getElem h]
  rfl
theorem joinL_cons (l : List S43) (i : Nat) (h : i < l.length) : joinL (l.drop i) = lineL true (rd_T43 l (i : Int)).f1 ++ 10 :: joinL (l.drop (i + 1)) := by
  rw [List.drop_eq_getElem_cons h, rd_T43_get l i h]
  rfl
theorem rdOf_get (l : List ByteArray) (i : Nat) (h : i < l.length) : rdOf ByteArray.empty l (i : Int) = l[i] := by
  unfold rdOf
  rw [Int.toNat_natCast, List.getD_eq_getElem?_getD, List.getElem?_eq_getElem h]
  rfl
theorem lineL_cons (fs : List ByteArray) (k : Nat) (h : k < fs.length) (first : Bool) : lineL first (fs.drop k) = (if first = true then [] else [32]) ++ (fieldB (rdOf ByteArray.empty fs (k : Int))).data.toList ++ lineL false (fs.drop (k + 1)) := by
  rw [List.drop_eq_getElem_cons h, rdOf_get fs k h]
  rfl
/-- Behind so many fields of a line. -/
def KInv (w : World) (b : Nat) (fs : List ByteArray) (rest T : List UInt8) (k : Nat) (w' : World) : Prop :=
  k ≤ fs.length ∧ ∃ acc : List UInt8, acc ++ (lineL (k == 0) (fs.drop k) ++ rest) = T ∧ Lib.IsBuilderF 48 5 w.heap.size b (Lib.byteCells acc) w' ∧ Below w.heap.size w w'
def JInv (w : World) (b : Nat) (l0 : List S43) (T : List UInt8) (i : Nat) (w' : World) : Prop :=
  i ≤ l0.length ∧ ∃ acc : List UInt8, acc ++ joinL (l0.drop i) = T ∧ Lib.IsBuilderF 48 5 w.heap.size b (Lib.byteCells acc) w' ∧ Below w.heap.size w w'
set_option maxHeartbeats 4000000 in
set_option maxRecDepth 100000 in
theorem line_Join.calls (A0 : Option Addr) (c0 : Nat) (l0 : List (S43)) (r : ByteArray) (w : World) (hr0 : Kd.C k43 w A0 l0.length l0) (hc0 : l0.length ≤ c0) (h : line_Join.f l0 = some r) :
    Calls Tryd.prog 14 #[.slice A0 l0.length c0] w fun e w' => e = .returned (.string r) ∧ Below w.heap.size w w' := by
  have hu43 := Tryd.underlying43
  unfold line_Join.f at h
  by_cases hT : (joinL l0).length ≤ 70368744177664
  · rw [if_pos hT] at h
    obtain rfl := Option.some.inj h
    have hmax := Kd.C_max hr0
    have HR := Aside0.mk hr0
    have HT := Aside0.mk hT
    clear h hr0 hT
    go_enter Tryd.func14, Tryd.ntmps14
    go_wp2
    go_loopg [10] (l0.length + 1) (fun kq v10 w' => ∃ i : Nat, v10 = .int .i64 i ∧ kq = l0.length - i + 1 ∧ Aside0 (JInv w w.heap.size l0 (joinL l0) i w'))
    case atStart => exact ⟨0, rfl, rfl, ⟨Nat.zero_le _, [], rfl, builder_new w, below_alloc (Below.refl _ _) _⟩⟩
    case round =>
      obtain ⟨i, rfl, hk, HJ⟩ := hrel
      obtain ⟨hi, acc, hacc, hbu, hB⟩ := HJ.out
      clear HJ
      by_cases hp : i < l0.length
      · obtain ⟨ad, A1, c1, rfl, g0, g1, g2, g3⟩ := at_T43 HR.out (i : Int) (Int.natCast_nonneg _) (by omega)
        rw [Int.toNat_natCast] at g0 g1
        have z0 := pw_cell_below hB g0
        have z1 := pw_cell_below hB g1
        have H3 := Aside0.mk g3
        have HA := Aside0.mk hacc
        have HBU := Aside0.mk hbu
        have HB := Aside0.mk hB
        have HK := Aside0.mk hk
        clear g0 g1 g3 hacc hbu hB hk
        have HC := Aside0.mk (joinL_cons l0 i hp)
        have HP := Aside0.mk hp
        generalize rd_T43 l0 (i : Int) = x at z0 z1 g2 H3 HC
        obtain ⟨x0, fs⟩ := x
        simp only at z0 z1 g2 H3 HC
        have hmaxf := Kd.C_max H3.out
        go_wp2
        obtain ⟨wo, hwo⟩ : ∃ wo : World, wo = wr := ⟨_, rfl⟩
        subst hwo
        go_loopg [17] (fs.length + 1) (fun kq v17 w' => ∃ k : Nat, v17 = .int .i64 k ∧ kq = fs.length - k + 1 ∧ Aside0 (KInv w w.heap.size fs (10 :: joinL (l0.drop (i + 1))) (joinL l0) k w'))
        case atStart =>
          refine ⟨0, rfl, rfl, ⟨Nat.zero_le _, acc, ?_, builder_below HBU.out (below_alloc (Below.refl _ _) _), below_alloc HB.out _⟩⟩
          rw [← HA.out, HC.out]
          rfl
        case round =>
          obtain ⟨k, rfl, hkk, HI⟩ := hrel
          obtain ⟨hkl, acc2, hacc2, hbu2, hB2⟩ := HI.out
          clear HI
          by_cases hq : k < fs.length
          · obtain ⟨ad1, rfl, gz⟩ := Kd.at_string H3.out (k : Int) (Int.natCast_nonneg _) (by omega)
            rw [Int.toNat_natCast] at gz
            have zz := pw_cell_below hB2 gz
            have hlc := lineL_cons fs k hq (k == 0)
            generalize rdOf ByteArray.empty fs (k : Int) = f at zz hlc
            have hlen := congrArg List.length hacc2
            rw [hlc] at hlen
            simp only [List.length_append] at hlen
            have hT2 := HT.out
            have hfl : (fieldB f).data.toList.length = (fieldB f).size := Utf.len_list _
            have hfg := fieldB_ge f
            have hfs : f.size ≤ 140737488351232 := by omega
            have hF := Aside0.mk (show acc2.length + (if (k == 0) = true then ([] : List UInt8) else [32]).length + (fieldB f).size ≤ 70368744177664 by omega)
            have HFS := Aside0.mk hfs
            have HBU2 := Aside0.mk hbu2
            have HB2 := Aside0.mk hB2
            have HKK := Aside0.mk hkk
            have HQ := Aside0.mk hq
            have HA2 := Aside0.mk (show acc2 ++ ((if (k == 0) = true then ([] : List UInt8) else [32]) ++ (fieldB f).data.toList ++ lineL false (fs.drop (k + 1)) ++ 10 :: joinL (l0.drop (i + 1))) = joinL l0 by rw [← hlc]; exact hacc2)
            clear hlc hlen hT2 hfl hfg hfs hbu2 hB2 hkk hacc2 gz hkl
            by_cases hk0 : k = 0
            · have c1 : decide (0 < (k : Int)) = false := decide_eq_false (by omega)
              have c2 : decide (0 < k) = false := decide_eq_false (by omega)
              have e0 : (k == 0) = true := by simp [hk0]
              have HL := Aside0.mk (show (Lib.byteCells acc2).length + (fieldB f).size ≤ 140737488355328 by have h1 := hF.out; rw [e0, if_pos rfl] at h1; rw [byteCells_len]; simp at h1; omega)
              have HA3 := Aside0.mk (show acc2 ++ (fieldB f).data.toList ++ (lineL (k + 1 == 0) (fs.drop (k + 1)) ++ 10 :: joinL (l0.drop (i + 1))) = joinL l0 by have h1 := HA2.out; rw [e0, if_pos rfl] at h1; rw [← h1]; simp)
              clear hk0 e0 hF HA2
              go_wp2_with (first | (go_at_call 21; refine (field_any f _ HFS.out).mono ?_; rintro e w3 ⟨rfl, hb⟩; have HB3 := Aside0.mk hb; have HBU3 := Aside0.mk (builder_below HBU2.out hb); clear hb) | (go_at_call 20; refine (writeString w.heap.size w.heap.size (Lib.byteCells acc2) (fieldB f) _ HBU3.out HL.out (Nat.le_trans HB2.out.size HB3.out.size)).mono ?_; rintro e w4 ⟨rfl, hbu, hb⟩; have HBU4 := Aside0.mk hbu; have HB4 := Aside0.mk hb; clear hbu hb))
              go_roundg (fs.length - (k + 1) + 1)
              case measure => have h1 := HKK.out; have h2 := HQ.out; omega
              case rel =>
                refine ⟨k + 1, rfl, rfl, ⟨HQ.out, acc2 ++ (fieldB f).data.toList, HA3.out, ?_, (below_then HB2.out HB2.out.size HB3.out).trans HB4.out⟩⟩
                have h1 := HBU4.out
                rw [strCells_bytes, byteCells_app] at h1
                exact h1
            · have c1 : decide (0 < (k : Int)) = true := decide_eq_true (by omega)
              have c2 : decide (0 < k) = true := decide_eq_true (by omega)
              have e0 : (k == 0) = false := by simp [hk0]
              have HL0 := Aside0.mk (show (Lib.byteCells acc2).length + 1 ≤ 140737488355328 by have h1 := hF.out; rw [byteCells_len]; omega)
              have HL := Aside0.mk (show (Lib.byteCells acc2 ++ [Value.int .u8 32]).length + (fieldB f).size ≤ 140737488355328 by have h1 := hF.out; rw [List.length_append, byteCells_len]; simp; omega)
              have HA3 := Aside0.mk (show acc2 ++ [32] ++ (fieldB f).data.toList ++ (lineL (k + 1 == 0) (fs.drop (k + 1)) ++ 10 :: joinL (l0.drop (i + 1))) = joinL l0 by have h1 := HA2.out; rw [e0, if_neg Bool.false_ne_true] at h1; rw [← h1]; simp)
              clear hk0 e0 hF HA2
              go_wp2_with (first | (go_at_call 19; refine (writeByte w.heap.size w.heap.size (Lib.byteCells acc2) 32 _ HBU2.out HL0.out HB2.out.size).mono ?_; rintro e w5 ⟨rfl, hbu, hb⟩; have HBU5 := Aside0.mk hbu; have HB5 := Aside0.mk (HB2.out.trans hb); clear hbu hb) | (go_at_call 21; refine (field_any f _ HFS.out).mono ?_; rintro e w3 ⟨rfl, hb⟩; have HB3 := Aside0.mk hb; have HBU3 := Aside0.mk (builder_below HBU5.out hb); clear hb) | (go_at_call 20; refine (writeString w.heap.size w.heap.size (Lib.byteCells acc2 ++ [Value.int .u8 32]) (fieldB f) _ HBU3.out HL.out (Nat.le_trans HB5.out.size HB3.out.size)).mono ?_; rintro e w4 ⟨rfl, hbu, hb⟩; have HBU4 := Aside0.mk hbu; have HB4 := Aside0.mk hb; clear hbu hb))
              go_roundg (fs.length - (k + 1) + 1)
              case measure => have h1 := HKK.out; have h2 := HQ.out; omega
              case rel =>
                refine ⟨k + 1, rfl, rfl, ⟨HQ.out, acc2 ++ [32] ++ (fieldB f).data.toList, HA3.out, ?_, (below_then HB5.out HB5.out.size HB3.out).trans HB4.out⟩⟩
                have h1 := HBU4.out
                rw [strCells_bytes, show Lib.byteCells acc2 ++ [Value.int .u8 32] = Lib.byteCells (acc2 ++ [32]) from byteCells_app acc2 [32], byteCells_app] at h1
                exact h1
          · have hke : k = fs.length := by omega
            subst hke
            rw [List.drop_length] at hacc2
            have HA2 := Aside0.mk (show acc2 ++ 10 :: joinL (l0.drop (i + 1)) = joinL l0 from by rw [← hacc2]; rfl)
            have HL0 := Aside0.mk (show (Lib.byteCells acc2).length + 1 ≤ 140737488355328 by have h1 := congrArg List.length HA2.out; have h2 := HT.out; rw [byteCells_len]; rw [List.length_append, List.length_cons] at h1; omega)
            have HBU2 := Aside0.mk hbu2
            have HB2 := Aside0.mk hB2
            clear hacc2 hbu2 hB2 hkk hkl hmaxf hq
            go_wp2_with (go_at_call 19; refine (writeByte w.heap.size w.heap.size (Lib.byteCells acc2) 10 _ HBU2.out HL0.out HB2.out.size).mono ?_; rintro e w5 ⟨rfl, hbu, hb⟩; have HBU5 := Aside0.mk hbu; have HB5 := Aside0.mk (HB2.out.trans hb); clear hbu hb)
            go_roundg (l0.length - (i + 1) + 1)
            case measure => have h1 := HK.out; have h2 := HP.out; omega
            case rel =>
              refine ⟨i + 1, rfl, rfl, ⟨HP.out, acc2 ++ [10], by rw [← HA2.out]; simp, ?_, HB5.out⟩⟩
              have h1 := HBU5.out
              rw [show Lib.byteCells acc2 ++ [Value.int .u8 10] = Lib.byteCells (acc2 ++ [10]) from byteCells_app acc2 [10]] at h1
              exact h1
      · have hie : i = l0.length := by omega
        subst hie
        rw [List.drop_length] at hacc
        have HA := Aside0.mk (show acc = joinL l0 by rw [← hacc]; simp [joinL])
        have HBU := Aside0.mk hbu
        have HB := Aside0.mk hB
        clear hacc hbu hB hk hi hp
        go_wp2_with (go_at_call 22; refine (Tryd.Builder_String_any_k w.heap.size w.heap.size acc _ HBU.out HB.out.size).mono ?_; rintro e w2 ⟨rfl, _, hb, _⟩; have HB2 := Aside0.mk hb; clear hb)
        go_ret
        exact ⟨by rw [HA.out]; rfl, HB.out.trans HB2.out⟩
  · rw [if_neg hT] at h; cases h


/-! ### computuslaw06_known: function 12 -/
/-- What must come of fixed calls: it does. -/
def computuslaw06_known.f : Option Bool := some true
def kSrc : ByteArray := ⟨#[82, 117, 108, 101, 32, 32, 65, 32, 34, 120, 32, 121, 34, 32, 35, 32, 110, 111, 10, 10, 98]⟩
def kF1 : List ByteArray := [⟨#[82, 117, 108, 101]⟩, ⟨#[65]⟩, ⟨#[120, 32, 121]⟩]
def kF2 : List ByteArray := [⟨#[98]⟩]
def kL : List S43 := [⟨1, kF1⟩, ⟨3, kF2⟩]
def kR : List S44 := [⟨1, kF1⟩, ⟨3, kF2⟩]
theorem k_split : line_Split.f kSrc = some (kL, 0, 0) := by kernel_rfl
theorem k_taken : computuslaw06_taken.f 5 kL = some kR := by kernel_rfl
theorem k_same : computusref06_Same.f 30 kR kR true = some true := by kernel_rfl
theorem k_join : line_Join.f kL = some ⟨#[82, 117, 108, 101, 32, 65, 32, 34, 120, 32, 121, 34, 10, 98, 10]⟩ := by kernel_rfl
theorem own_blk {w : World} {g : Nat} {e : TypeId} {xs : List Value} (h : w.heap[g]? = some (.cells xs.toArray e (0, 0))) (hl : xs.length ≤ 1000) : w.ownsRow 0 e 1 (.slice (some ⟨g, 0, none⟩) xs.length xs.length) xs.length xs :=
  ⟨by simp, .inr ⟨g, xs.length, xs.toArray, rfl, Nat.zero_le _, h, Nat.le_refl _, by unfold maxLen; omega, by simp, by simp⟩⟩
theorem str_blk {w : World} {g : Nat} {l : List ByteArray} (h : w.heap[g]? = some (.cells (l.map Value.string).toArray 9 (0, 0))) (hl : l.length ≤ 1000) : Kd.string.C w (some ⟨g, 0, none⟩) l.length l := by
  have h1 := own_blk h (by rw [List.length_map]; exact hl)
  rw [List.length_map] at h1
  exact Kd.C_of_reads (d := ByteArray.empty) (own_reads_of' h1)
theorem want_blk {w : World} {g g1 g2 : Nat} (h1 : w.heap[g1]? = some (.cells (kF1.map Value.string).toArray 9 (0, 0))) (h2 : w.heap[g2]? = some (.cells (kF2.map Value.string).toArray 9 (0, 0)))
    (h : w.heap[g]? = some (.cells #[.int .i64 1, .slice (some ⟨g1, 0, none⟩) 3 3, .int .i64 3, .slice (some ⟨g2, 0, none⟩) 1 1] 44 (0, 0))) : Kd.C k44 w (some ⟨g, 0, none⟩) kR.length kR := by
  refine ⟨rfl, by decide, fun _ => ⟨_, rfl, fun j p hj => ?_⟩⟩
  have hc : ∀ i, w.cell? ((⟨g, 0, none⟩ : Addr).add i) = (#[.int .i64 1, .slice (some ⟨g1, 0, none⟩) 3 3, .int .i64 3, .slice (some ⟨g2, 0, none⟩) 1 1] : Array Value)[i]? := fun i => by
    rw [add_plain, blk_cell h]
  match j, hj with
  | 0, hj =>
    obtain rfl := Option.some.inj hj
    refine ⟨_, ?_, k44_mk w ⟨1, kF1⟩ (c1 := 3) (Nat.le_refl _) (str_blk h1 (by decide)), fun i u hu => ?_⟩
    · rfl
    · rw [hc]
      match i, hu with
      | 0, hu => exact hu
      | 1, hu => exact hu
      | (i + 2), hu => cases hu
  | 1, hj =>
    obtain rfl := Option.some.inj hj
    refine ⟨_, ?_, k44_mk w ⟨3, kF2⟩ (c1 := 1) (Nat.le_refl _) (str_blk h2 (by decide)), fun i u hu => ?_⟩
    · rfl
    · rw [hc]
      match i, hu with
      | 0, hu => exact hu
      | 1, hu => exact hu
      | (i + 2), hu => cases hu
  | (j + 2), hj => cases hj
theorem alloc3 (w : World) (a b c : Obj) : (((w.alloc a).alloc b).alloc c).heap[w.heap.size]? = some a ∧ (((w.alloc a).alloc b).alloc c).heap[w.heap.size + 1]? = some b ∧ (((w.alloc a).alloc b).alloc c).heap[w.heap.size + 2]? = some c := by
  have s1 : (w.alloc a).heap.size = w.heap.size + 1 := by simp
  have s2 : ((w.alloc a).alloc b).heap.size = w.heap.size + 2 := by simp
  refine ⟨?_, ?_, ?_⟩
  · rw [Lib.alloc_old _ _ _ (by omega), Lib.alloc_old _ _ _ (by omega)]
    exact heap_alloc_new w a
  · rw [Lib.alloc_old _ _ _ (by omega), ← s1]
    exact heap_alloc_new _ b
  · rw [← s2]
    exact heap_alloc_new _ c
/-- What is wanted, read. -/
theorem want_now (w : World) : Kd.C k44 (((w.alloc (.cells #[.string ⟨#[82, 117, 108, 101]⟩, .string ⟨#[65]⟩, .string ⟨#[120, 32, 121]⟩] 9)).alloc (.cells #[.string ⟨#[98]⟩] 9)).alloc (.cells #[.int .i64 1, .slice (some ⟨w.heap.size, 0, none⟩) 3 3, .int .i64 3, .slice (some ⟨w.heap.size + 1, 0, none⟩) 1 1] 44)) (some ⟨w.heap.size + 2, 0, none⟩) kR.length kR :=
  want_blk (alloc3 w _ _ _).1 (alloc3 w _ _ _).2.1 (alloc3 w _ _ _).2.2
set_option maxHeartbeats 4000000 in
set_option maxRecDepth 100000 in
theorem computuslaw06_known.calls (r : Bool) (w : World) (h : computuslaw06_known.f = some r) :
    Calls Tryd.prog 12 #[] w fun e w' => e = .returned (.bool r) ∧ Below w.heap.size w w' := by
  obtain rfl := Option.some.inj h
  have hsp := line_Split.calls kSrc kL 0 0 w k_split
  unfold kSrc at hsp
  have HSP := Aside0.mk hsp
  clear hsp
  clear h
  go_enter Tryd.func12, Tryd.ntmps12
  go_wp2_with (first | (go_at_call 8; refine HSP.out.mono ?_; rintro e w1 ⟨v, rfl, ho, hb⟩; obtain ⟨A, c, hv, hlc, hr8⟩ := Kd.S_reads ho; subst hv; have HR8 := Aside0.mk hr8; clear hr8; have HO := Aside0.mk ho; have HB := Aside0.mk hb; have HLC := Aside0.mk hlc; clear ho hb hlc) | (go_at_call 11; refine (computuslaw06_taken.calls 5 (fun _ => True) A c kL kR _ ?side1 k_taken).mono ?_; (case side1 => refine Kd.S_V (base := w.heap.size) ?_; repeat (first | exact HO.out | apply Kd.S_alloc)); rintro e w2 ⟨v2, rfl, ho2, hb2⟩; obtain ⟨A2, c2, hv2, hl2, hr2⟩ := Kd.N_reads ho2; subst hv2; have HL2 := Aside0.mk hl2; have HR2 := Aside0.mk hr2; have HB2 := Aside0.mk hb2; have HW2 := Aside0.mk (Kd.C_below (want_now w1) hb2); clear ho2 hb2 hl2 hr2) | (go_at_call 10; refine (computusref06_Same.calls 30 A2 c2 kR (some ⟨w1.heap.size + 2, 0, none⟩) 2 kR true true _ HR2.out HL2.out HW2.out (Nat.le_refl _) k_same).mono ?_; rintro e w3 ⟨rfl, ⟨n3, rfl⟩⟩) | (go_at_call 14; refine (line_Join.calls A c kL _ _ ?side2 HLC.out k_join).mono ?_; (case side2 => exact Kd.C_below HR8.out (pw_below_drewN (below_then (below_alloc (below_alloc (below_alloc (Below.refl _ w1) _) _) _) (by simp; omega) HB2.out) _)); rintro e w4 ⟨rfl, hb4⟩; have HB4 := Aside0.mk hb4; clear hb4))
  go_ret
  have h1 := HB.out.size
  have b3 := below_alloc (below_alloc (below_alloc HB.out (.cells #[.string ⟨#[82, 117, 108, 101]⟩, .string ⟨#[65]⟩, .string ⟨#[120, 32, 121]⟩] 9)) (.cells #[.string ⟨#[98]⟩] 9)) (.cells #[.int .i64 1, .slice (some ⟨w1.heap.size, 0, none⟩) 3 3, .int .i64 3, .slice (some ⟨w1.heap.size + 1, 0, none⟩) 1 1] 44)
  have b2 := below_then b3 b3.size HB2.out
  exact ⟨rfl, below_then (pw_below_drewN b2 _) b2.size HB4.out⟩


/-! ### computuslaw06_LineSplits: function 3 -/
def computuslaw06_LineSplits.f (k : Nat) (a0 : ByteArray) : Option (Bool) := (line_Split.f a0).bind fun bt136 => ((computusref06_Split.f k a0).bind fun bt141 => ((computuslaw06_taken.f k bt136.1).bind fun t146 => ((computusref06_Same.f k t146 bt141.1 true).bind fun t149 => (if t149 = true then (if bt136.2.1 = bt141.2.1 then (if bt136.2.2 = bt141.2.2 then ((computuslaw06_known.f).bind fun t150 => (some t150)) else (some false)) else (some false)) else (some false)))))
theorem computuslaw06_LineSplits.mono : ∀ a0 k, LeO (computuslaw06_LineSplits.f k a0) (computuslaw06_LineSplits.f (k + 1) a0) := by
  intro a0 k
  unfold computuslaw06_LineSplits.f
  repeat' first
      | (with_reducible exact computuslaw06_taken.mono _ _)
      | (with_reducible exact computusref06_Same.mono _ _ _ _)
      | (with_reducible exact computusref06_Split.mono _ _)
      | (with_reducible exact LeO.refl _)
      | (with_reducible exact LeO.none _)
      | (with_reducible refine LeO.ite ?_ ?_)
      | (with_reducible refine LeO.bind ?_ (fun _ => ?_))
      | exact computuslaw06_taken.mono _ _
      | exact computusref06_Same.mono _ _ _ _
      | exact computusref06_Split.mono _ _
      | exact LeO.none _
      | refine LeO.ite ?_ ?_
      | refine LeO.bind ?_ (fun _ => ?_)
set_option maxHeartbeats 8000000 in
set_option maxRecDepth 100000 in
theorem computuslaw06_LineSplits.calls (k : Nat) (a0 : ByteArray) (r : Bool) (w : World) (h : computuslaw06_LineSplits.f k a0 = some r) :
    Calls Tryd.prog 3 #[.string a0] w fun e w' => e = .returned (.bool r) ∧ Below w.heap.size w w' := by
  have HB := Aside0.mk (Below.refl w.heap.size w)
  have H : ((line_Split.f a0).bind fun bt136 => ((computusref06_Split.f k a0).bind fun bt141 => ((computuslaw06_taken.f k bt136.1).bind fun t146 => ((computusref06_Same.f k t146 bt141.1 true).bind fun t149 => (if t149 = true then (if bt136.2.1 = bt141.2.1 then (if bt136.2.2 = bt141.2.2 then ((computuslaw06_known.f).bind fun t150 => (some t150)) else (some false)) else (some false)) else (some false)))))) = some r := h
  clear h
  replace H := Option.bind_eq_some_iff.mp H
  obtain ⟨⟨t136, t137, t138⟩, A20, H⟩ := H
  replace H : ((computusref06_Split.f k a0).bind fun bt141 => ((computuslaw06_taken.f k t136).bind fun t146 => ((computusref06_Same.f k t146 bt141.1 true).bind fun t149 => (if t149 = true then (if t137 = bt141.2.1 then (if t138 = bt141.2.2 then ((computuslaw06_known.f).bind fun t150 => (some t150)) else (some false)) else (some false)) else (some false))))) = some r := H
  have A2 := Aside0.mk A20
  clear A20
  replace H := Option.bind_eq_some_iff.mp H
  obtain ⟨⟨t141, t142, t143⟩, A30, H⟩ := H
  replace H : ((computuslaw06_taken.f k t136).bind fun t146 => ((computusref06_Same.f k t146 t141 true).bind fun t149 => (if t149 = true then (if t137 = t142 then (if t138 = t143 then ((computuslaw06_known.f).bind fun t150 => (some t150)) else (some false)) else (some false)) else (some false)))) = some r := H
  have A3 := Aside0.mk A30
  clear A30
  replace H := Option.bind_eq_some_iff.mp H
  obtain ⟨t146, A40, H⟩ := H
  replace H : ((computusref06_Same.f k t146 t141 true).bind fun t149 => (if t149 = true then (if t137 = t142 then (if t138 = t143 then ((computuslaw06_known.f).bind fun t150 => (some t150)) else (some false)) else (some false)) else (some false))) = some r := H
  have A4 := Aside0.mk A40
  clear A40
  replace H := Option.bind_eq_some_iff.mp H
  obtain ⟨t149, A50, H⟩ := H
  replace H : (if t149 = true then (if t137 = t142 then (if t138 = t143 then ((computuslaw06_known.f).bind fun t150 => (some t150)) else (some false)) else (some false)) else (some false)) = some r := H
  have A5 := Aside0.mk A50
  clear A50
  by_cases c6 : t149 = true
  · subst c6
    have H1 : (if t137 = t142 then (if t138 = t143 then ((computuslaw06_known.f).bind fun t150 => (some t150)) else (some false)) else (some false)) = some r := by rw [if_pos rfl] at H; exact H
    clear H
    have H := H1
    clear H1
    by_cases c7 : t137 = t142
    · rw [if_pos c7] at H
      have c7b0 : (t137 == t142) = true := beq_iff_eq.mpr c7
      have c7b1 : (t137 != t142) = false := bne_eq_false_iff_eq.mpr c7
      clear c7
      by_cases c8 : t138 = t143
      · rw [if_pos c8] at H
        have c8b0 : (t138 == t143) = true := beq_iff_eq.mpr c8
        have c8b1 : (t138 != t143) = false := bne_eq_false_iff_eq.mpr c8
        clear c8
        replace H := Option.bind_eq_some_iff.mp H
        obtain ⟨t150, A90, H⟩ := H
        replace H : (some t150) = some r := H
        have A9 := Aside0.mk A90
        clear A90
        obtain rfl := Option.some.inj H
        go_enter Tryd.func3, Tryd.ntmps3
        go_wp2_with (first | ((with_reducible refine gate_callee (f := 8) rfl ?_); refine goesL_ (some 11) rfl rfl Tryd.func8 (by kernel_rfl) rfl #[.string a0] rfl (by (try simp only [List.map_toArray, List.map_cons, List.map_nil]); first | done | rfl | (simp only [List.length_drop, List.length_take]; rfl)) ?_; (with_reducible refine (line_Split.calls a0 t136 t137 t138 _ A2.out).mono ?_); rintro e w10 ⟨v139, rfl, ho0, hb⟩; refine ⟨_, rfl, ?_⟩; have n0_ := Aside0.mk (Kd.N_lower (Kd.N_mono (ok' := fun k_ => True) (Kd.S_N (Kd.S_bound ho0)) (fun k_ hk_ => trivial)) (below_size (by repeat (first | (with_reducible first | exact HB.out | apply below_alloc | apply pw_below_drewN | apply below_drew1) | exact HB.out)))); have n1_ := Aside0.mk (below_step (by repeat (first | (with_reducible first | exact HB.out | apply below_alloc | apply pw_below_drewN | apply below_drew1) | exact HB.out)) hb); clear HB; have HO140 := n0_; have HB := n1_; clear n0_ n1_; (try clear hb); (try clear hb2); (try clear hk); (try clear hi); (try clear ho0)) | ((with_reducible refine gate_callee (f := 9) rfl ?_); refine goesL_ (some 17) rfl rfl Tryd.func9 (by kernel_rfl) rfl #[.string a0] rfl (by (try simp only [List.map_toArray, List.map_cons, List.map_nil]); first | done | rfl | (simp only [List.length_drop, List.length_take]; rfl)) ?_; (with_reducible refine (computusref06_Split.calls k a0 t141 t142 t143 _ A3.out).mono ?_); rintro e w11 ⟨v144, rfl, ho0, hb⟩; refine ⟨_, rfl, ?_⟩; have n0_ := Aside0.mk (Kd.N_elder' (by (with_reducible repeat (first | apply Kd.N_alloc | apply Kd.N_drewN | apply Kd.N_drew)); exact HO140.out) (Kd.S_base ho0) hb); have n1_ := Aside0.mk (Kd.N_lower (Kd.N_mono (ok' := fun k_ => some k_ ≠ (v139 : Value).ownBlock) (Kd.S_N (Kd.S_bound ho0)) (fun k_ hk_ => (Kd.fresh' (Kd.N_lt (by (with_reducible repeat (first | apply Kd.N_alloc | apply Kd.N_drewN | apply Kd.N_drew)); exact HO140.out)) k_ hk_.2.1))) (below_size (by repeat (first | (with_reducible first | exact HB.out | apply below_alloc | apply pw_below_drewN | apply below_drew1) | exact HB.out)))); have n2_ := Aside0.mk (below_step (by repeat (first | (with_reducible first | exact HB.out | apply below_alloc | apply pw_below_drewN | apply below_drew1) | exact HB.out)) hb); clear HO140; clear HB; have HO140 := n0_; have HO145 := n1_; have HB := n2_; clear n0_ n1_ n2_; (try clear hb); (try clear hb2); (try clear hk); (try clear hi); (try clear ho0); obtain ⟨Ao12, co12, eo12⟩ := Kd.N_slice HO140.out; subst eo12) | ((with_reducible refine gate_callee (f := 11) rfl ?_); refine goesL_ (some 22) rfl rfl Tryd.func11 (by kernel_rfl) rfl #[.slice Ao12 t136.length co12] rfl (by (try simp only [List.map_toArray, List.map_cons, List.map_nil]); first | done | rfl | (simp only [List.length_drop, List.length_take]; rfl)) ?_; (with_reducible refine (computuslaw06_taken.calls k (fun k_ => (True ∧ some k_ ≠ (v144 : Value).ownBlock)) _ _ t136 t146 _ ?side1 A4.out).mono ?_); (case side1 => exact Kd.N_V (HO140.out)); rintro e w13 ⟨v147, rfl, ho0, hb⟩; refine ⟨_, rfl, ?_⟩; have n0_ := Aside0.mk (Kd.N_elder' (by (with_reducible repeat (first | apply Kd.N_alloc | apply Kd.N_drewN | apply Kd.N_drew)); exact HO140.out) (Kd.N_base ho0) hb); have n1_ := Aside0.mk (Kd.N_elder' (by (with_reducible repeat (first | apply Kd.N_alloc | apply Kd.N_drewN | apply Kd.N_drew)); exact HO145.out) (Kd.N_base ho0) hb); have n2_ := Aside0.mk (Kd.N_lower (Kd.N_mono (ok' := fun k_ => some k_ ≠ (v144 : Value).ownBlock) ho0 (fun k_ hk_ => Or.elim hk_ (fun hs_ => hs_.2) (fun hn_ => (Kd.fresh' (Kd.N_lt (by (with_reducible repeat (first | apply Kd.N_alloc | apply Kd.N_drewN | apply Kd.N_drew)); exact HO145.out)) k_ hn_)))) (below_size (by repeat (first | (with_reducible first | exact HB.out | apply below_alloc | apply pw_below_drewN | apply below_drew1) | exact HB.out)))); have n3_ := Aside0.mk (below_step (by repeat (first | (with_reducible first | exact HB.out | apply below_alloc | apply pw_below_drewN | apply below_drew1) | exact HB.out)) hb); clear HO140; clear HO145; clear HB; have HO140 := n0_; have HO145 := n1_; have HO148 := n2_; have HB := n3_; clear n0_ n1_ n2_ n3_; (try clear hb); (try clear hb2); (try clear hk); (try clear hi); (try clear ho0); obtain ⟨Ao14, co14, eo14⟩ := Kd.N_slice HO148.out; subst eo14; obtain ⟨Ao15, co15, eo15⟩ := Kd.N_slice HO145.out; subst eo15) | ((with_reducible refine gate_callee (f := 10) rfl ?_); refine goesL_ (some 24) rfl rfl Tryd.func10 (by kernel_rfl) rfl #[.slice Ao14 t146.length co14, .slice Ao15 t141.length co15, .bool true] rfl (by (try simp only [List.map_toArray, List.map_cons, List.map_nil]); first | done | rfl | (simp only [List.length_drop, List.length_take]; rfl)) ?_; (with_reducible refine (computusref06_Same.calls k _ _ t146 _ _ t141 true true _ ?side1 ?side2 ?side3 ?side4 A5.out).mono ?_); (case side1 => repeat (first | exact (Kd.N_reads' HO148.out).2.2 | (with_reducible refine Kd.C_alloc ?_ _) | (with_reducible refine Kd.C_drewN ?_ _) | (with_reducible refine Kd.C_drew ?_))); (case side2 => exact (Kd.N_reads' HO148.out).2.1); (case side3 => repeat (first | exact (Kd.N_reads' HO145.out).2.2 | (with_reducible refine Kd.C_alloc ?_ _) | (with_reducible refine Kd.C_drewN ?_ _) | (with_reducible refine Kd.C_drew ?_))); (case side4 => exact (Kd.N_reads' HO145.out).2.1); rintro e w' ⟨rfl, ⟨nd, rfl⟩⟩; refine ⟨_, rfl, ?_⟩) | (go_at_call 12; (with_reducible refine (computuslaw06_known.calls  t150 _ A9.out).mono ?_); rintro e w16 ⟨rfl, hb⟩; have n0_ := Aside0.mk (Kd.N_below (by (with_reducible repeat (first | apply Kd.N_alloc | apply Kd.N_drewN | apply Kd.N_drew)); exact HO140.out) hb); have n1_ := Aside0.mk (Kd.N_below (by (with_reducible repeat (first | apply Kd.N_alloc | apply Kd.N_drewN | apply Kd.N_drew)); exact HO145.out) hb); have n2_ := Aside0.mk (Kd.N_below (by (with_reducible repeat (first | apply Kd.N_alloc | apply Kd.N_drewN | apply Kd.N_drew)); exact HO148.out) hb); have n3_ := Aside0.mk (below_step (by repeat (first | (with_reducible first | exact HB.out | apply below_alloc | apply pw_below_drewN | apply below_drew1) | exact HB.out)) hb); clear HO140; clear HO145; clear HO148; clear HB; have HO140 := n0_; have HO145 := n1_; have HO148 := n2_; have HB := n3_; clear n0_ n1_ n2_ n3_; (try clear hb); (try clear hb2); (try clear hk); (try clear hi)))
        go_ret
        exact ⟨by first | rfl | (simp [errW_none, errW_some] <;> rfl) | (simp [*, errW_none, errW_some] <;> rfl), by repeat (first | (with_reducible first | exact HB.out | apply below_alloc | apply pw_below_drewN | apply below_drew1) | exact HB.out)⟩
      · rw [if_neg c8] at H
        have c8b0 : (t138 == t143) = false := beq_eq_false_iff_ne.mpr c8
        have c8b1 : (t138 != t143) = true := bne_iff_ne.mpr c8
        obtain rfl := Option.some.inj H
        go_enter Tryd.func3, Tryd.ntmps3
        go_wp2_with (first | ((with_reducible refine gate_callee (f := 8) rfl ?_); refine goesL_ (some 11) rfl rfl Tryd.func8 (by kernel_rfl) rfl #[.string a0] rfl (by (try simp only [List.map_toArray, List.map_cons, List.map_nil]); first | done | rfl | (simp only [List.length_drop, List.length_take]; rfl)) ?_; (with_reducible refine (line_Split.calls a0 t136 t137 t138 _ A2.out).mono ?_); rintro e w17 ⟨v139, rfl, ho0, hb⟩; refine ⟨_, rfl, ?_⟩; have n0_ := Aside0.mk (Kd.N_lower (Kd.N_mono (ok' := fun k_ => True) (Kd.S_N (Kd.S_bound ho0)) (fun k_ hk_ => trivial)) (below_size (by repeat (first | (with_reducible first | exact HB.out | apply below_alloc | apply pw_below_drewN | apply below_drew1) | exact HB.out)))); have n1_ := Aside0.mk (below_step (by repeat (first | (with_reducible first | exact HB.out | apply below_alloc | apply pw_below_drewN | apply below_drew1) | exact HB.out)) hb); clear HB; have HO140 := n0_; have HB := n1_; clear n0_ n1_; (try clear hb); (try clear hb2); (try clear hk); (try clear hi); (try clear ho0)) | ((with_reducible refine gate_callee (f := 9) rfl ?_); refine goesL_ (some 17) rfl rfl Tryd.func9 (by kernel_rfl) rfl #[.string a0] rfl (by (try simp only [List.map_toArray, List.map_cons, List.map_nil]); first | done | rfl | (simp only [List.length_drop, List.length_take]; rfl)) ?_; (with_reducible refine (computusref06_Split.calls k a0 t141 t142 t143 _ A3.out).mono ?_); rintro e w18 ⟨v144, rfl, ho0, hb⟩; refine ⟨_, rfl, ?_⟩; have n0_ := Aside0.mk (Kd.N_elder' (by (with_reducible repeat (first | apply Kd.N_alloc | apply Kd.N_drewN | apply Kd.N_drew)); exact HO140.out) (Kd.S_base ho0) hb); have n1_ := Aside0.mk (Kd.N_lower (Kd.N_mono (ok' := fun k_ => some k_ ≠ (v139 : Value).ownBlock) (Kd.S_N (Kd.S_bound ho0)) (fun k_ hk_ => (Kd.fresh' (Kd.N_lt (by (with_reducible repeat (first | apply Kd.N_alloc | apply Kd.N_drewN | apply Kd.N_drew)); exact HO140.out)) k_ hk_.2.1))) (below_size (by repeat (first | (with_reducible first | exact HB.out | apply below_alloc | apply pw_below_drewN | apply below_drew1) | exact HB.out)))); have n2_ := Aside0.mk (below_step (by repeat (first | (with_reducible first | exact HB.out | apply below_alloc | apply pw_below_drewN | apply below_drew1) | exact HB.out)) hb); clear HO140; clear HB; have HO140 := n0_; have HO145 := n1_; have HB := n2_; clear n0_ n1_ n2_; (try clear hb); (try clear hb2); (try clear hk); (try clear hi); (try clear ho0); obtain ⟨Ao19, co19, eo19⟩ := Kd.N_slice HO140.out; subst eo19) | ((with_reducible refine gate_callee (f := 11) rfl ?_); refine goesL_ (some 22) rfl rfl Tryd.func11 (by kernel_rfl) rfl #[.slice Ao19 t136.length co19] rfl (by (try simp only [List.map_toArray, List.map_cons, List.map_nil]); first | done | rfl | (simp only [List.length_drop, List.length_take]; rfl)) ?_; (with_reducible refine (computuslaw06_taken.calls k (fun k_ => (True ∧ some k_ ≠ (v144 : Value).ownBlock)) _ _ t136 t146 _ ?side1 A4.out).mono ?_); (case side1 => exact Kd.N_V (HO140.out)); rintro e w20 ⟨v147, rfl, ho0, hb⟩; refine ⟨_, rfl, ?_⟩; have n0_ := Aside0.mk (Kd.N_elder' (by (with_reducible repeat (first | apply Kd.N_alloc | apply Kd.N_drewN | apply Kd.N_drew)); exact HO140.out) (Kd.N_base ho0) hb); have n1_ := Aside0.mk (Kd.N_elder' (by (with_reducible repeat (first | apply Kd.N_alloc | apply Kd.N_drewN | apply Kd.N_drew)); exact HO145.out) (Kd.N_base ho0) hb); have n2_ := Aside0.mk (Kd.N_lower (Kd.N_mono (ok' := fun k_ => some k_ ≠ (v144 : Value).ownBlock) ho0 (fun k_ hk_ => Or.elim hk_ (fun hs_ => hs_.2) (fun hn_ => (Kd.fresh' (Kd.N_lt (by (with_reducible repeat (first | apply Kd.N_alloc | apply Kd.N_drewN | apply Kd.N_drew)); exact HO145.out)) k_ hn_)))) (below_size (by repeat (first | (with_reducible first | exact HB.out | apply below_alloc | apply pw_below_drewN | apply below_drew1) | exact HB.out)))); have n3_ := Aside0.mk (below_step (by repeat (first | (with_reducible first | exact HB.out | apply below_alloc | apply pw_below_drewN | apply below_drew1) | exact HB.out)) hb); clear HO140; clear HO145; clear HB; have HO140 := n0_; have HO145 := n1_; have HO148 := n2_; have HB := n3_; clear n0_ n1_ n2_ n3_; (try clear hb); (try clear hb2); (try clear hk); (try clear hi); (try clear ho0); obtain ⟨Ao21, co21, eo21⟩ := Kd.N_slice HO148.out; subst eo21; obtain ⟨Ao22, co22, eo22⟩ := Kd.N_slice HO145.out; subst eo22) | ((with_reducible refine gate_callee (f := 10) rfl ?_); refine goesL_ (some 24) rfl rfl Tryd.func10 (by kernel_rfl) rfl #[.slice Ao21 t146.length co21, .slice Ao22 t141.length co22, .bool true] rfl (by (try simp only [List.map_toArray, List.map_cons, List.map_nil]); first | done | rfl | (simp only [List.length_drop, List.length_take]; rfl)) ?_; (with_reducible refine (computusref06_Same.calls k _ _ t146 _ _ t141 true true _ ?side1 ?side2 ?side3 ?side4 A5.out).mono ?_); (case side1 => repeat (first | exact (Kd.N_reads' HO148.out).2.2 | (with_reducible refine Kd.C_alloc ?_ _) | (with_reducible refine Kd.C_drewN ?_ _) | (with_reducible refine Kd.C_drew ?_))); (case side2 => exact (Kd.N_reads' HO148.out).2.1); (case side3 => repeat (first | exact (Kd.N_reads' HO145.out).2.2 | (with_reducible refine Kd.C_alloc ?_ _) | (with_reducible refine Kd.C_drewN ?_ _) | (with_reducible refine Kd.C_drew ?_))); (case side4 => exact (Kd.N_reads' HO145.out).2.1); rintro e w' ⟨rfl, ⟨nd, rfl⟩⟩; refine ⟨_, rfl, ?_⟩))
        go_ret
        exact ⟨by first | rfl | (simp [errW_none, errW_some] <;> rfl) | (simp [*, errW_none, errW_some] <;> rfl), by repeat (first | (with_reducible first | exact HB.out | apply below_alloc | apply pw_below_drewN | apply below_drew1) | exact HB.out)⟩
    · rw [if_neg c7] at H
      have c7b0 : (t137 == t142) = false := beq_eq_false_iff_ne.mpr c7
      have c7b1 : (t137 != t142) = true := bne_iff_ne.mpr c7
      obtain rfl := Option.some.inj H
      go_enter Tryd.func3, Tryd.ntmps3
      go_wp2_with (first | ((with_reducible refine gate_callee (f := 8) rfl ?_); refine goesL_ (some 11) rfl rfl Tryd.func8 (by kernel_rfl) rfl #[.string a0] rfl (by (try simp only [List.map_toArray, List.map_cons, List.map_nil]); first | done | rfl | (simp only [List.length_drop, List.length_take]; rfl)) ?_; (with_reducible refine (line_Split.calls a0 t136 t137 t138 _ A2.out).mono ?_); rintro e w23 ⟨v139, rfl, ho0, hb⟩; refine ⟨_, rfl, ?_⟩; have n0_ := Aside0.mk (Kd.N_lower (Kd.N_mono (ok' := fun k_ => True) (Kd.S_N (Kd.S_bound ho0)) (fun k_ hk_ => trivial)) (below_size (by repeat (first | (with_reducible first | exact HB.out | apply below_alloc | apply pw_below_drewN | apply below_drew1) | exact HB.out)))); have n1_ := Aside0.mk (below_step (by repeat (first | (with_reducible first | exact HB.out | apply below_alloc | apply pw_below_drewN | apply below_drew1) | exact HB.out)) hb); clear HB; have HO140 := n0_; have HB := n1_; clear n0_ n1_; (try clear hb); (try clear hb2); (try clear hk); (try clear hi); (try clear ho0)) | ((with_reducible refine gate_callee (f := 9) rfl ?_); refine goesL_ (some 17) rfl rfl Tryd.func9 (by kernel_rfl) rfl #[.string a0] rfl (by (try simp only [List.map_toArray, List.map_cons, List.map_nil]); first | done | rfl | (simp only [List.length_drop, List.length_take]; rfl)) ?_; (with_reducible refine (computusref06_Split.calls k a0 t141 t142 t143 _ A3.out).mono ?_); rintro e w24 ⟨v144, rfl, ho0, hb⟩; refine ⟨_, rfl, ?_⟩; have n0_ := Aside0.mk (Kd.N_elder' (by (with_reducible repeat (first | apply Kd.N_alloc | apply Kd.N_drewN | apply Kd.N_drew)); exact HO140.out) (Kd.S_base ho0) hb); have n1_ := Aside0.mk (Kd.N_lower (Kd.N_mono (ok' := fun k_ => some k_ ≠ (v139 : Value).ownBlock) (Kd.S_N (Kd.S_bound ho0)) (fun k_ hk_ => (Kd.fresh' (Kd.N_lt (by (with_reducible repeat (first | apply Kd.N_alloc | apply Kd.N_drewN | apply Kd.N_drew)); exact HO140.out)) k_ hk_.2.1))) (below_size (by repeat (first | (with_reducible first | exact HB.out | apply below_alloc | apply pw_below_drewN | apply below_drew1) | exact HB.out)))); have n2_ := Aside0.mk (below_step (by repeat (first | (with_reducible first | exact HB.out | apply below_alloc | apply pw_below_drewN | apply below_drew1) | exact HB.out)) hb); clear HO140; clear HB; have HO140 := n0_; have HO145 := n1_; have HB := n2_; clear n0_ n1_ n2_; (try clear hb); (try clear hb2); (try clear hk); (try clear hi); (try clear ho0); obtain ⟨Ao25, co25, eo25⟩ := Kd.N_slice HO140.out; subst eo25) | ((with_reducible refine gate_callee (f := 11) rfl ?_); refine goesL_ (some 22) rfl rfl Tryd.func11 (by kernel_rfl) rfl #[.slice Ao25 t136.length co25] rfl (by (try simp only [List.map_toArray, List.map_cons, List.map_nil]); first | done | rfl | (simp only [List.length_drop, List.length_take]; rfl)) ?_; (with_reducible refine (computuslaw06_taken.calls k (fun k_ => (True ∧ some k_ ≠ (v144 : Value).ownBlock)) _ _ t136 t146 _ ?side1 A4.out).mono ?_); (case side1 => exact Kd.N_V (HO140.out)); rintro e w26 ⟨v147, rfl, ho0, hb⟩; refine ⟨_, rfl, ?_⟩; have n0_ := Aside0.mk (Kd.N_elder' (by (with_reducible repeat (first | apply Kd.N_alloc | apply Kd.N_drewN | apply Kd.N_drew)); exact HO140.out) (Kd.N_base ho0) hb); have n1_ := Aside0.mk (Kd.N_elder' (by (with_reducible repeat (first | apply Kd.N_alloc | apply Kd.N_drewN | apply Kd.N_drew)); exact HO145.out) (Kd.N_base ho0) hb); have n2_ := Aside0.mk (Kd.N_lower (Kd.N_mono (ok' := fun k_ => some k_ ≠ (v144 : Value).ownBlock) ho0 (fun k_ hk_ => Or.elim hk_ (fun hs_ => hs_.2) (fun hn_ => (Kd.fresh' (Kd.N_lt (by (with_reducible repeat (first | apply Kd.N_alloc | apply Kd.N_drewN | apply Kd.N_drew)); exact HO145.out)) k_ hn_)))) (below_size (by repeat (first | (with_reducible first | exact HB.out | apply below_alloc | apply pw_below_drewN | apply below_drew1) | exact HB.out)))); have n3_ := Aside0.mk (below_step (by repeat (first | (with_reducible first | exact HB.out | apply below_alloc | apply pw_below_drewN | apply below_drew1) | exact HB.out)) hb); clear HO140; clear HO145; clear HB; have HO140 := n0_; have HO145 := n1_; have HO148 := n2_; have HB := n3_; clear n0_ n1_ n2_ n3_; (try clear hb); (try clear hb2); (try clear hk); (try clear hi); (try clear ho0); obtain ⟨Ao27, co27, eo27⟩ := Kd.N_slice HO148.out; subst eo27; obtain ⟨Ao28, co28, eo28⟩ := Kd.N_slice HO145.out; subst eo28) | ((with_reducible refine gate_callee (f := 10) rfl ?_); refine goesL_ (some 24) rfl rfl Tryd.func10 (by kernel_rfl) rfl #[.slice Ao27 t146.length co27, .slice Ao28 t141.length co28, .bool true] rfl (by (try simp only [List.map_toArray, List.map_cons, List.map_nil]); first | done | rfl | (simp only [List.length_drop, List.length_take]; rfl)) ?_; (with_reducible refine (computusref06_Same.calls k _ _ t146 _ _ t141 true true _ ?side1 ?side2 ?side3 ?side4 A5.out).mono ?_); (case side1 => repeat (first | exact (Kd.N_reads' HO148.out).2.2 | (with_reducible refine Kd.C_alloc ?_ _) | (with_reducible refine Kd.C_drewN ?_ _) | (with_reducible refine Kd.C_drew ?_))); (case side2 => exact (Kd.N_reads' HO148.out).2.1); (case side3 => repeat (first | exact (Kd.N_reads' HO145.out).2.2 | (with_reducible refine Kd.C_alloc ?_ _) | (with_reducible refine Kd.C_drewN ?_ _) | (with_reducible refine Kd.C_drew ?_))); (case side4 => exact (Kd.N_reads' HO145.out).2.1); rintro e w' ⟨rfl, ⟨nd, rfl⟩⟩; refine ⟨_, rfl, ?_⟩))
      go_ret
      exact ⟨by first | rfl | (simp [errW_none, errW_some] <;> rfl) | (simp [*, errW_none, errW_some] <;> rfl), by repeat (first | (with_reducible first | exact HB.out | apply below_alloc | apply pw_below_drewN | apply below_drew1) | exact HB.out)⟩
  · replace c6 := Bool.eq_false_iff.mpr c6
    subst c6
    have H1 : (some false) = some r := by rw [if_neg (show ¬ (false = true) by decide)] at H; exact H
    clear H
    have H := H1
    clear H1
    obtain rfl := Option.some.inj H
    go_enter Tryd.func3, Tryd.ntmps3
    go_wp2_with (first | ((with_reducible refine gate_callee (f := 8) rfl ?_); refine goesL_ (some 11) rfl rfl Tryd.func8 (by kernel_rfl) rfl #[.string a0] rfl (by (try simp only [List.map_toArray, List.map_cons, List.map_nil]); first | done | rfl | (simp only [List.length_drop, List.length_take]; rfl)) ?_; (with_reducible refine (line_Split.calls a0 t136 t137 t138 _ A2.out).mono ?_); rintro e w29 ⟨v139, rfl, ho0, hb⟩; refine ⟨_, rfl, ?_⟩; have n0_ := Aside0.mk (Kd.N_lower (Kd.N_mono (ok' := fun k_ => True) (Kd.S_N (Kd.S_bound ho0)) (fun k_ hk_ => trivial)) (below_size (by repeat (first | (with_reducible first | exact HB.out | apply below_alloc | apply pw_below_drewN | apply below_drew1) | exact HB.out)))); have n1_ := Aside0.mk (below_step (by repeat (first | (with_reducible first | exact HB.out | apply below_alloc | apply pw_below_drewN | apply below_drew1) | exact HB.out)) hb); clear HB; have HO140 := n0_; have HB := n1_; clear n0_ n1_; (try clear hb); (try clear hb2); (try clear hk); (try clear hi); (try clear ho0)) | ((with_reducible refine gate_callee (f := 9) rfl ?_); refine goesL_ (some 17) rfl rfl Tryd.func9 (by kernel_rfl) rfl #[.string a0] rfl (by (try simp only [List.map_toArray, List.map_cons, List.map_nil]); first | done | rfl | (simp only [List.length_drop, List.length_take]; rfl)) ?_; (with_reducible refine (computusref06_Split.calls k a0 t141 t142 t143 _ A3.out).mono ?_); rintro e w30 ⟨v144, rfl, ho0, hb⟩; refine ⟨_, rfl, ?_⟩; have n0_ := Aside0.mk (Kd.N_elder' (by (with_reducible repeat (first | apply Kd.N_alloc | apply Kd.N_drewN | apply Kd.N_drew)); exact HO140.out) (Kd.S_base ho0) hb); have n1_ := Aside0.mk (Kd.N_lower (Kd.N_mono (ok' := fun k_ => some k_ ≠ (v139 : Value).ownBlock) (Kd.S_N (Kd.S_bound ho0)) (fun k_ hk_ => (Kd.fresh' (Kd.N_lt (by (with_reducible repeat (first | apply Kd.N_alloc | apply Kd.N_drewN | apply Kd.N_drew)); exact HO140.out)) k_ hk_.2.1))) (below_size (by repeat (first | (with_reducible first | exact HB.out | apply below_alloc | apply pw_below_drewN | apply below_drew1) | exact HB.out)))); have n2_ := Aside0.mk (below_step (by repeat (first | (with_reducible first | exact HB.out | apply below_alloc | apply pw_below_drewN | apply below_drew1) | exact HB.out)) hb); clear HO140; clear HB; have HO140 := n0_; have HO145 := n1_; have HB := n2_; clear n0_ n1_ n2_; (try clear hb); (try clear hb2); (try clear hk); (try clear hi); (try clear ho0); obtain ⟨Ao31, co31, eo31⟩ := Kd.N_slice HO140.out; subst eo31) | ((with_reducible refine gate_callee (f := 11) rfl ?_); refine goesL_ (some 22) rfl rfl Tryd.func11 (by kernel_rfl) rfl #[.slice Ao31 t136.length co31] rfl (by (try simp only [List.map_toArray, List.map_cons, List.map_nil]); first | done | rfl | (simp only [List.length_drop, List.length_take]; rfl)) ?_; (with_reducible refine (computuslaw06_taken.calls k (fun k_ => (True ∧ some k_ ≠ (v144 : Value).ownBlock)) _ _ t136 t146 _ ?side1 A4.out).mono ?_); (case side1 => exact Kd.N_V (HO140.out)); rintro e w32 ⟨v147, rfl, ho0, hb⟩; refine ⟨_, rfl, ?_⟩; have n0_ := Aside0.mk (Kd.N_elder' (by (with_reducible repeat (first | apply Kd.N_alloc | apply Kd.N_drewN | apply Kd.N_drew)); exact HO140.out) (Kd.N_base ho0) hb); have n1_ := Aside0.mk (Kd.N_elder' (by (with_reducible repeat (first | apply Kd.N_alloc | apply Kd.N_drewN | apply Kd.N_drew)); exact HO145.out) (Kd.N_base ho0) hb); have n2_ := Aside0.mk (Kd.N_lower (Kd.N_mono (ok' := fun k_ => some k_ ≠ (v144 : Value).ownBlock) ho0 (fun k_ hk_ => Or.elim hk_ (fun hs_ => hs_.2) (fun hn_ => (Kd.fresh' (Kd.N_lt (by (with_reducible repeat (first | apply Kd.N_alloc | apply Kd.N_drewN | apply Kd.N_drew)); exact HO145.out)) k_ hn_)))) (below_size (by repeat (first | (with_reducible first | exact HB.out | apply below_alloc | apply pw_below_drewN | apply below_drew1) | exact HB.out)))); have n3_ := Aside0.mk (below_step (by repeat (first | (with_reducible first | exact HB.out | apply below_alloc | apply pw_below_drewN | apply below_drew1) | exact HB.out)) hb); clear HO140; clear HO145; clear HB; have HO140 := n0_; have HO145 := n1_; have HO148 := n2_; have HB := n3_; clear n0_ n1_ n2_ n3_; (try clear hb); (try clear hb2); (try clear hk); (try clear hi); (try clear ho0); obtain ⟨Ao33, co33, eo33⟩ := Kd.N_slice HO148.out; subst eo33; obtain ⟨Ao34, co34, eo34⟩ := Kd.N_slice HO145.out; subst eo34) | ((with_reducible refine gate_callee (f := 10) rfl ?_); refine goesL_ (some 24) rfl rfl Tryd.func10 (by kernel_rfl) rfl #[.slice Ao33 t146.length co33, .slice Ao34 t141.length co34, .bool true] rfl (by (try simp only [List.map_toArray, List.map_cons, List.map_nil]); first | done | rfl | (simp only [List.length_drop, List.length_take]; rfl)) ?_; (with_reducible refine (computusref06_Same.calls k _ _ t146 _ _ t141 true false _ ?side1 ?side2 ?side3 ?side4 A5.out).mono ?_); (case side1 => repeat (first | exact (Kd.N_reads' HO148.out).2.2 | (with_reducible refine Kd.C_alloc ?_ _) | (with_reducible refine Kd.C_drewN ?_ _) | (with_reducible refine Kd.C_drew ?_))); (case side2 => exact (Kd.N_reads' HO148.out).2.1); (case side3 => repeat (first | exact (Kd.N_reads' HO145.out).2.2 | (with_reducible refine Kd.C_alloc ?_ _) | (with_reducible refine Kd.C_drewN ?_ _) | (with_reducible refine Kd.C_drew ?_))); (case side4 => exact (Kd.N_reads' HO145.out).2.1); rintro e w' ⟨rfl, ⟨nd, rfl⟩⟩; refine ⟨_, rfl, ?_⟩))
    go_ret
    exact ⟨by first | rfl | (simp [errW_none, errW_some] <;> rfl) | (simp [*, errW_none, errW_some] <;> rfl), by repeat (first | (with_reducible first | exact HB.out | apply below_alloc | apply pw_below_drewN | apply below_drew1) | exact HB.out)⟩

/-- THE ONE PURE STATEMENT of computuslaw06_LineSplits: yours. -/
def computuslaw06_LineSplits.Pure : Prop := ∀ (a0 : ByteArray), a0.size ≤ 140737488351232 → ∃ k, computuslaw06_LineSplits.f k a0 = some true
theorem computuslaw06_LineSplits.walk (P : computuslaw06_LineSplits.Pure) (a0 : ByteArray) (w : World) (w0 : a0.size ≤ 140737488351232) :
    Calls Tryd.prog 3 #[.string a0] w fun e w' => e = .returned (.bool true) ∧ Below w.heap.size w w' := by
  obtain ⟨k, h⟩ := P a0 w0
  refine (computuslaw06_LineSplits.calls k a0 true w h).mono ?_
  rintro e w' ⟨rfl, hd⟩
  exact ⟨rfl, hd⟩

end Go.Proofs.YtohhmnbcaflppaaDoor.PLine
