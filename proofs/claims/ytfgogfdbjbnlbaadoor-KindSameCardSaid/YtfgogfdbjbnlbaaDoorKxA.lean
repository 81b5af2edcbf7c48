/- What the claim of CardKindSame needs, out of the session's texts, in their order. -/
import Derived.Test.YtfgogfdbjbnlbaaDoorKuL
section
namespace Go.Proofs.YtfgogfdbjbnlbaaDoor.PExpr
open Go.RowKit Go.Proofs.YtfgogfdbjbnlbaaDoorW.PrintWords Go.Proofs.YtfgogfdbjbnlbaaDoorW.PrintLast Go.Proofs.YtfgogfdbjbnlbaaDoorW.PrintMore
attribute [local go_sem] max2_int min2_int max_two min_two max_three min_three max_four min_four   -- for this text's walks alone
set_option linter.unusedVariables false
set_option linter.unusedSimpArgs false
def computusref23_Table.f : Option (List S27) := some rowsR
def expr_Parse.f (a0 : ByteArray) : Option (Int × ByteArray × (List (S58)) × Int × Int × Int) := (parseS a0).map fun r => (r.1.f0, r.1.f1, r.1.f2, r.1.f3, r.2.1, r.2.2)
theorem expr_Parse.calls (a0 : ByteArray) (r1 : Int) (r2 : ByteArray) (r3 : List (S58)) (r4 : Int) (r5 : Int) (r6 : Int) (w : World) (h : expr_Parse.f a0 = some (r1, r2, r3, r4, r5, r6)) :
  Calls Tryd.prog 23 #[.string a0] w fun e w' => ∃ v2_ : Value, e = .returned (.tuple #[.agg #[.int .i64 r1, .string r2, v2_, .int .i64 r4], .int .i64 r5, .int .i64 r6]) ∧ Kd.R k58 58 w' w.heap.size (fun _ => True) v2_ r3 ∧ Below w.heap.size w w' := by
 obtain ⟨⟨n, pos, why⟩, hp, he⟩ := Option.map_eq_some_iff.1 h
 injection he with e1 he
 injection he with e2 he
 injection he with e3 he
 injection he with e4 he
 injection he with e5 e6
 subst e1 e2 e3 e4 e5 e6
 exact parse_body a0 n pos why w hp
def kind_Find.f (a0 : ByteArray) (l : List Int) : Option (Int × Bool × Bool) := if l.length ≤ 17592186043904 then some (findF a0 l) else none
def kind_Check.f (a0 : Int) (a1 : ByteArray) (l : List S58) (a3 : Int) : Option (Int × Bool × Int × Int) := checkF ⟨a0, a1, l, a3⟩
theorem kind_Check.calls (a0 : Int) (a1 : ByteArray) (A2 : Option Addr) (c2 : Nat) (l2 : List S58) (a3 : Int) (r1 : Int) (r2 : Bool) (r3 : Int) (r4 : Int) (w : World) (hr : Kd.C k58 w A2 l2.length l2) (hc : l2.length ≤ c2) (hT : Tab w) (h : kind_Check.f a0 a1 l2 a3 = some (r1, r2, r3, r4)) :
  Calls Tryd.prog 24 #[.agg #[.int .i64 a0, .string a1, .slice A2 l2.length c2, .int .i64 a3]] w fun e w' => e = .returned (.tuple #[.int .i64 r1, .bool r2, .int .i64 r3, .int .i64 r4]) ∧ Below w.heap.size w w' :=
 check_calls ⟨a0, a1, l2, a3⟩ (r1, r2, r3, r4) A2 c2 w h hr hc hT
def computuslaw23_check.f (a0 : ByteArray) : Option (Int × Bool × Int × Int) := (expr_Parse.f a0).bind fun bt149 => (if bt149.2.2.2.2.2 = 0 then ((kind_Check.f bt149.1 bt149.2.1 bt149.2.2.1 bt149.2.2.2.1).bind fun bt158 => (some (bt158.1, bt158.2.1, bt158.2.2.1, bt158.2.2.2))) else (some (0, false, bt149.2.2.2.2.1, bt149.2.2.2.2.2)))
set_option maxHeartbeats 8000000 in
set_option maxRecDepth 100000 in
theorem computuslaw23_check.calls (a0 : ByteArray) (r1 : Int) (r2 : Bool) (r3 : Int) (r4 : Int) (w : World) (hTW0 : Tab w) (h : computuslaw23_check.f a0 = some (r1, r2, r3, r4)) :
  Calls Tryd.prog 9 #[.string a0] w fun e w' => e = .returned (.tuple #[.int .i64 r1, .bool r2, .int .i64 r3, .int .i64 r4]) ∧ Below w.heap.size w w' := by
 have HTW0 := Aside0.mk hTW0
 clear hTW0
 have hu58 := Tryd.underlying58
 have HB := Aside0.mk (Below.refl w.heap.size w)
 have H : ((expr_Parse.f a0).bind fun bt149 => (if bt149.2.2.2.2.2 = 0 then ((kind_Check.f bt149.1 bt149.2.1 bt149.2.2.1 bt149.2.2.2.1).bind fun bt158 => (some (bt158.1, bt158.2.1, bt158.2.2.1, bt158.2.2.2))) else (some (0, false, bt149.2.2.2.2.1, bt149.2.2.2.2.2)))) = some (r1, r2, r3, r4) := h
 clear h
 replace H := Option.bind_eq_some_iff.mp H
 obtain ⟨⟨t149, t150, t151, t154, t155, t156⟩, A20, H⟩ := H
 replace H : (if t156 = 0 then ((kind_Check.f t149 t150 t151 t154).bind fun bt158 => (some (bt158.1, bt158.2.1, bt158.2.2.1, bt158.2.2.2))) else (some (0, false, t155, t156))) = some (r1, r2, r3, r4) := H
 have A2 := Aside0.mk A20
 clear A20
 by_cases c3 : t156 = 0
 ·rw [if_pos c3] at H
  have c3b0 : (t156 == 0) = true := beq_iff_eq.mpr c3
  have c3b1 : (t156 != 0) = false := bne_eq_false_iff_eq.mpr c3
  clear c3
  replace H := Option.bind_eq_some_iff.mp H
  obtain ⟨⟨t158, t159, t160, t161⟩, A40, H⟩ := H
  replace H : (some (t158, t159, t160, t161)) = some (r1, r2, r3, r4) := H
  have A4 := Aside0.mk A40
  clear A40
  simp only [Option.some.injEq, Prod.mk.injEq] at H
  obtain ⟨rfl, rfl, rfl, rfl⟩ := H
  go_enter Tryd.func9, Tryd.ntmps9
  go_wp2_with (first | ((with_reducible refine gate_callee (f := 23) rfl ?_); refine goesL_ (some 11) rfl rfl Tryd.func23 (by kernel_rfl) rfl #[.string a0] rfl (by (try simp only [List.map_toArray, List.map_cons, List.map_nil]); first | done | rfl | (simp only [List.length_drop, List.length_take]; rfl)) ?_; (with_reducible refine (expr_Parse.calls a0 t149 t150 t151 t154 t155 t156 _ A2.out).mono ?_); rintro e w5 ⟨v152, rfl, ho0, hb⟩; refine ⟨_, rfl, ?_⟩; have n0_ := Aside0.mk (Kd.R_lower ho0 (below_size (by repeat (first | (with_reducible first | exact HB.out | apply below_alloc | apply pw_below_drewN | apply below_drew1) | exact HB.out)))); have n1_ := Aside0.mk (below_step (by repeat (first | (with_reducible first | exact HB.out | apply below_alloc | apply pw_below_drewN | apply below_drew1) | exact HB.out)) hb); clear HB; have HO153 := n0_; have HB := n1_; clear n0_ n1_; (try clear hb); (try clear hb2); (try clear hk); (try clear hi); (try clear ho0)) | ((with_reducible refine gate_dst (N := 6) rfl ?_); refine box_event ?hg (N := 6) ?hd (cs := #[.int .i64 0, .string (⟨#[]⟩ : ByteArray), .slice none 0 0, .int .i64 0]) (t := 58) ?hr ?_; (case hd => rfl); (case hg => rfl); (case hr => first | (go_simp; done) | (go_simp; rfl)); intro gb157 hg w6 hbox hb; have n0_ := Aside0.mk (Kd.R_below (Kd.R_elderB (by (with_reducible repeat (first | apply Kd.R_alloc | apply Kd.R_drewN | apply Kd.R_drew)); exact HO153.out) gb157 (Nat.le_of_eq hg.symm)) hb); have n1_ := Aside0.mk (below_step (by repeat (first | (with_reducible first | exact HB.out | apply below_alloc | apply pw_below_drewN | apply below_drew1) | exact HB.out)) hb); have n2_ := Aside0.mk (hbox); have n3_ := Aside0.mk ((by rw [hg]; exact (below_size (by repeat (first | (with_reducible first | exact HB.out | apply below_alloc | apply pw_below_drewN | apply below_drew1) | exact HB.out))) : w.heap.size ≤ gb157)); have n4_ := Aside0.mk ((by rw [hg]; exact (below_size (by repeat (first | (with_reducible first | exact HB.out | apply below_alloc | apply pw_below_drewN | apply below_drew1) | exact HB.out))) : w.heap.size ≤ gb157)); clear HO153; clear HB; have HO153 := n0_; have HB := n1_; have BK157 := n2_; have GW157 := n3_; have GE157 := n4_; clear n0_ n1_ n2_ n3_ n4_; clear hb hbox hg; have hcz7_0 : w6.cell? ⟨gb157, 0, none⟩ = some (.int .i64 0) := (blk_cell BK157.out 0).trans rfl; have hcz7_1 : w6.cell? ⟨gb157, 1, none⟩ = some (.string (⟨#[]⟩ : ByteArray)) := (blk_cell BK157.out 1).trans rfl; have hcz7_2 : w6.cell? ⟨gb157, 2, none⟩ = some (.slice none 0 0) := (blk_cell BK157.out 2).trans rfl; have hcz7_3 : w6.cell? ⟨gb157, 3, none⟩ = some (.int .i64 0) := (blk_cell BK157.out 3).trans rfl; have hfz7_0 := blk_frozen BK157.out 0; have hfz7_1 := blk_frozen BK157.out 1; have hfz7_2 := blk_frozen BK157.out 2; have hfz7_3 := blk_frozen BK157.out 3; obtain ⟨Ao8, co8, eo8⟩ := Kd.R_slice HO153.out; subst eo8) | ((with_reducible refine gate_callee (f := 24) rfl ?_); refine goesL_ (some 20) rfl rfl Tryd.func24 (by kernel_rfl) rfl #[.agg #[.int .i64 t149, .string t150, .slice Ao8 t151.length co8, .int .i64 t154]] rfl (by (try simp only [List.map_toArray, List.map_cons, List.map_nil]); first | done | rfl | (simp only [List.length_drop, List.length_take]; rfl)) ?_; (with_reducible refine (kind_Check.calls t149 t150 _ _ t151 t154 t158 t159 t160 t161 _ ?side1 ?side2 (HTW0.out.below (by repeat (first | (with_reducible first | exact HB.out | apply below_alloc | apply pw_below_drewN | apply below_drew1 | refine below_set ?_ GE157.out) | exact HB.out))) A4.out).mono ?_); (case side1 => refine (Kd.R_reads' (e := 58) (base := w.heap.size) (ok := fun k_ => (True ∧ k_ ≠ gb157)) (n := t151.length) (c := co8) ?_).2.2; exact (by (with_reducible repeat (first | apply Kd.R_alloc | apply Kd.R_drewN | apply Kd.R_drew)); exact (Kd.R_mono (Kd.R_far (p := ⟨gb157, 3, none⟩) (Kd.R_far (p := ⟨gb157, 2, none⟩) (Kd.R_far (p := ⟨gb157, 1, none⟩) (Kd.R_far (p := ⟨gb157, 0, none⟩) (Kd.R_mono HO153.out (fun k_ hk => (⟨hk, hk.2⟩ : _ ∧ k_ ≠ gb157))) (fun _ hk => hk.2) (.int .i64 t149)) (fun _ hk => hk.2) (.string t150)) (fun _ hk => hk.2) (.slice Ao8 t151.length co8)) (fun _ hk => hk.2) (.int .i64 t154)) (fun _ h_ => h_.1)))); (case side2 => exact (Kd.R_reads' HO153.out).2.1); rintro e w9 ⟨rfl, hb⟩; refine ⟨_, rfl, ?_⟩; have n0_ := Aside0.mk (Kd.R_below (by (with_reducible repeat (first | apply Kd.R_alloc | apply Kd.R_drewN | apply Kd.R_drew)); exact (Kd.R_mono (Kd.R_far (p := ⟨gb157, 3, none⟩) (Kd.R_far (p := ⟨gb157, 2, none⟩) (Kd.R_far (p := ⟨gb157, 1, none⟩) (Kd.R_far (p := ⟨gb157, 0, none⟩) (Kd.R_mono HO153.out (fun k_ hk => (⟨hk, hk.2⟩ : _ ∧ k_ ≠ gb157))) (fun _ hk => hk.2) (.int .i64 t149)) (fun _ hk => hk.2) (.string t150)) (fun _ hk => hk.2) (.slice Ao8 t151.length co8)) (fun _ hk => hk.2) (.int .i64 t154)) (fun _ h_ => h_.1))) hb); have n1_ := Aside0.mk (blk_below (g := gb157) (o := .cells #[.int .i64 t149, .string t150, .slice Ao8 t151.length co8, .int .i64 t154] 58 (0, 0)) (by (with_reducible repeat (first | refine blk_drewN ?_ _ | refine blk_drew ?_ | refine blk_alloc ?_ _)); refine blk_put (cs := #[.int .i64 t149, .string t150, .slice Ao8 t151.length co8, .int .i64 0]) ?_ 3 _ rfl; (with_reducible repeat (first | refine blk_drewN ?_ _ | refine blk_drew ?_ | refine blk_alloc ?_ _)); refine blk_put (cs := #[.int .i64 t149, .string t150, .slice none 0 0, .int .i64 0]) ?_ 2 _ rfl; (with_reducible repeat (first | refine blk_drewN ?_ _ | refine blk_drew ?_ | refine blk_alloc ?_ _)); refine blk_put (cs := #[.int .i64 t149, .string (⟨#[]⟩ : ByteArray), .slice none 0 0, .int .i64 0]) ?_ 1 _ rfl; (with_reducible repeat (first | refine blk_drewN ?_ _ | refine blk_drew ?_ | refine blk_alloc ?_ _)); refine blk_put (cs := #[.int .i64 0, .string (⟨#[]⟩ : ByteArray), .slice none 0 0, .int .i64 0]) ?_ 0 _ rfl; (with_reducible repeat (first | refine blk_drewN ?_ _ | refine blk_drew ?_ | refine blk_alloc ?_ _)); exact BK157.out) hb); have n2_ := Aside0.mk (below_step (by repeat (first | (with_reducible first | exact HB.out | apply below_alloc | apply pw_below_drewN | apply below_drew1 | refine below_set ?_ GE157.out) | exact HB.out)) hb); clear HO153; clear BK157; clear HB; have HO153 := n0_; have BK157 := n1_; have HB := n2_; clear n0_ n1_ n2_; (try clear hb); (try clear hb2); (try clear hk); (try clear hi)))
  refine bodyPost_ret (results_list (rs := [.tmp 2, .tmp 3, .tmp 4, .tmp 5]) rfl (by simp) (.tmp (.tmp (.tmp (.tmp .nil))))) rfl ?_
  exact ⟨by first | rfl | (simp [errW_none, errW_some] <;> rfl) | (simp [*, errW_none, errW_some] <;> rfl), by repeat (first | (with_reducible first | exact HB.out | apply below_alloc | apply pw_below_drewN | apply below_drew1 | refine below_set ?_ GE157.out) | exact HB.out)⟩
 ·rw [if_neg c3] at H
  have c3b0 : (t156 == 0) = false := beq_eq_false_iff_ne.mpr c3
  have c3b1 : (t156 != 0) = true := bne_iff_ne.mpr c3
  simp only [Option.some.injEq, Prod.mk.injEq] at H
  obtain ⟨rfl, rfl, rfl, rfl⟩ := H
  go_enter Tryd.func9, Tryd.ntmps9
  go_wp2_with (first | ((with_reducible refine gate_callee (f := 23) rfl ?_); refine goesL_ (some 11) rfl rfl Tryd.func23 (by kernel_rfl) rfl #[.string a0] rfl (by (try simp only [List.map_toArray, List.map_cons, List.map_nil]); first | done | rfl | (simp only [List.length_drop, List.length_take]; rfl)) ?_; (with_reducible refine (expr_Parse.calls a0 t149 t150 t151 t154 t155 t156 _ A2.out).mono ?_); rintro e w10 ⟨v152, rfl, ho0, hb⟩; refine ⟨_, rfl, ?_⟩; have n0_ := Aside0.mk (Kd.R_lower ho0 (below_size (by repeat (first | (with_reducible first | exact HB.out | apply below_alloc | apply pw_below_drewN | apply below_drew1) | exact HB.out)))); have n1_ := Aside0.mk (below_step (by repeat (first | (with_reducible first | exact HB.out | apply below_alloc | apply pw_below_drewN | apply below_drew1) | exact HB.out)) hb); clear HB; have HO153 := n0_; have HB := n1_; clear n0_ n1_; (try clear hb); (try clear hb2); (try clear hk); (try clear hi); (try clear ho0)) | ((with_reducible refine gate_dst (N := 6) rfl ?_); refine box_event ?hg (N := 6) ?hd (cs := #[.int .i64 0, .string (⟨#[]⟩ : ByteArray), .slice none 0 0, .int .i64 0]) (t := 58) ?hr ?_; (case hd => rfl); (case hg => rfl); (case hr => first | (go_simp; done) | (go_simp; rfl)); intro gb157 hg w11 hbox hb; have n0_ := Aside0.mk (Kd.R_below (Kd.R_elderB (by (with_reducible repeat (first | apply Kd.R_alloc | apply Kd.R_drewN | apply Kd.R_drew)); exact HO153.out) gb157 (Nat.le_of_eq hg.symm)) hb); have n1_ := Aside0.mk (below_step (by repeat (first | (with_reducible first | exact HB.out | apply below_alloc | apply pw_below_drewN | apply below_drew1) | exact HB.out)) hb); have n2_ := Aside0.mk (hbox); have n3_ := Aside0.mk ((by rw [hg]; exact (below_size (by repeat (first | (with_reducible first | exact HB.out | apply below_alloc | apply pw_below_drewN | apply below_drew1) | exact HB.out))) : w.heap.size ≤ gb157)); have n4_ := Aside0.mk ((by rw [hg]; exact (below_size (by repeat (first | (with_reducible first | exact HB.out | apply below_alloc | apply pw_below_drewN | apply below_drew1) | exact HB.out))) : w.heap.size ≤ gb157)); clear HO153; clear HB; have HO153 := n0_; have HB := n1_; have BK157 := n2_; have GW157 := n3_; have GE157 := n4_; clear n0_ n1_ n2_ n3_ n4_; clear hb hbox hg; have hcz12_0 : w11.cell? ⟨gb157, 0, none⟩ = some (.int .i64 0) := (blk_cell BK157.out 0).trans rfl; have hcz12_1 : w11.cell? ⟨gb157, 1, none⟩ = some (.string (⟨#[]⟩ : ByteArray)) := (blk_cell BK157.out 1).trans rfl; have hcz12_2 : w11.cell? ⟨gb157, 2, none⟩ = some (.slice none 0 0) := (blk_cell BK157.out 2).trans rfl; have hcz12_3 : w11.cell? ⟨gb157, 3, none⟩ = some (.int .i64 0) := (blk_cell BK157.out 3).trans rfl; have hfz12_0 := blk_frozen BK157.out 0; have hfz12_1 := blk_frozen BK157.out 1; have hfz12_2 := blk_frozen BK157.out 2; have hfz12_3 := blk_frozen BK157.out 3; obtain ⟨Ao13, co13, eo13⟩ := Kd.R_slice HO153.out; subst eo13))
  refine bodyPost_ret (results_list (rs := [.tmp 2, .tmp 3, .tmp 4, .tmp 5]) rfl (by simp) (.tmp (.tmp (.tmp (.tmp .nil))))) rfl ?_
  exact ⟨by first | rfl | (simp [errW_none, errW_some] <;> rfl) | (simp [*, errW_none, errW_some] <;> rfl), by repeat (first | (with_reducible first | exact HB.out | apply below_alloc | apply pw_below_drewN | apply below_drew1 | refine below_set ?_ GE157.out) | exact HB.out)⟩
def computuslaw23_known.f  : Option (Bool) := (computuslaw23_check.f (⟨#[49, 32, 43, 32, 49, 46, 53]⟩ : ByteArray)).bind fun bt162 => ((computuslaw23_check.f (⟨#[100, 97, 116, 101, 32, 39, 50, 48, 50, 52, 45, 48, 49, 45, 48, 49, 39, 32, 43, 32, 49]⟩ : ByteArray)).bind fun bt166 => ((computuslaw23_check.f (⟨#[49, 32, 43, 32, 116, 114, 117, 101]⟩ : ByteArray)).bind fun bt170 => ((computuslaw23_check.f (⟨#[103, 101, 110, 101, 114, 97, 116, 101, 95, 115, 101, 114, 105, 101, 115, 40, 49, 44, 32, 50, 44, 32, 49, 41, 32, 43, 32, 49]⟩ : ByteArray)).bind fun bt174 => (if bt162.1 = 3 then (if bt162.2.2.2 = 0 then (if bt166.1 = 5 then (if bt166.2.2.2 = 0 then (if bt170.2.2.1 = 2 then (if bt170.2.2.2 = 32 then (if bt174.2.2.1 = 0 then (some (bt174.2.2.2 == 32)) else (some false)) else (some false)) else (some false)) else (some false)) else (some false)) else (some false)) else (some false)))))
set_option maxHeartbeats 8000000 in
set_option maxRecDepth 100000 in
theorem computuslaw23_known.calls  (r : Bool) (w : World) (hTW0 : Tab w) (h : computuslaw23_known.f  = some r) :
  Calls Tryd.prog 7 #[] w fun e w' => e = .returned (.bool r) ∧ Below w.heap.size w w' := by
 have HTW0 := Aside0.mk hTW0
 clear hTW0
 have HB := Aside0.mk (Below.refl w.heap.size w)
 have H : ((computuslaw23_check.f (⟨#[49, 32, 43, 32, 49, 46, 53]⟩ : ByteArray)).bind fun bt162 => ((computuslaw23_check.f (⟨#[100, 97, 116, 101, 32, 39, 50, 48, 50, 52, 45, 48, 49, 45, 48, 49, 39, 32, 43, 32, 49]⟩ : ByteArray)).bind fun bt166 => ((computuslaw23_check.f (⟨#[49, 32, 43, 32, 116, 114, 117, 101]⟩ : ByteArray)).bind fun bt170 => ((computuslaw23_check.f (⟨#[103, 101, 110, 101, 114, 97, 116, 101, 95, 115, 101, 114, 105, 101, 115, 40, 49, 44, 32, 50, 44, 32, 49, 41, 32, 43, 32, 49]⟩ : ByteArray)).bind fun bt174 => (if bt162.1 = 3 then (if bt162.2.2.2 = 0 then (if bt166.1 = 5 then (if bt166.2.2.2 = 0 then (if bt170.2.2.1 = 2 then (if bt170.2.2.2 = 32 then (if bt174.2.2.1 = 0 then (some (bt174.2.2.2 == 32)) else (some false)) else (some false)) else (some false)) else (some false)) else (some false)) else (some false)) else (some false)))))) = some r := h
 clear h
 replace H := Option.bind_eq_some_iff.mp H
 obtain ⟨⟨t162, t163, t164, t165⟩, A10, H⟩ := H
 replace H : ((computuslaw23_check.f (⟨#[100, 97, 116, 101, 32, 39, 50, 48, 50, 52, 45, 48, 49, 45, 48, 49, 39, 32, 43, 32, 49]⟩ : ByteArray)).bind fun bt166 => ((computuslaw23_check.f (⟨#[49, 32, 43, 32, 116, 114, 117, 101]⟩ : ByteArray)).bind fun bt170 => ((computuslaw23_check.f (⟨#[103, 101, 110, 101, 114, 97, 116, 101, 95, 115, 101, 114, 105, 101, 115, 40, 49, 44, 32, 50, 44, 32, 49, 41, 32, 43, 32, 49]⟩ : ByteArray)).bind fun bt174 => (if t162 = 3 then (if t165 = 0 then (if bt166.1 = 5 then (if bt166.2.2.2 = 0 then (if bt170.2.2.1 = 2 then (if bt170.2.2.2 = 32 then (if bt174.2.2.1 = 0 then (some (bt174.2.2.2 == 32)) else (some false)) else (some false)) else (some false)) else (some false)) else (some false)) else (some false)) else (some false))))) = some r := H
 have A1 := Aside0.mk A10
 clear A10
 replace H := Option.bind_eq_some_iff.mp H
 obtain ⟨⟨t166, t167, t168, t169⟩, A20, H⟩ := H
 replace H : ((computuslaw23_check.f (⟨#[49, 32, 43, 32, 116, 114, 117, 101]⟩ : ByteArray)).bind fun bt170 => ((computuslaw23_check.f (⟨#[103, 101, 110, 101, 114, 97, 116, 101, 95, 115, 101, 114, 105, 101, 115, 40, 49, 44, 32, 50, 44, 32, 49, 41, 32, 43, 32, 49]⟩ : ByteArray)).bind fun bt174 => (if t162 = 3 then (if t165 = 0 then (if t166 = 5 then (if t169 = 0 then (if bt170.2.2.1 = 2 then (if bt170.2.2.2 = 32 then (if bt174.2.2.1 = 0 then (some (bt174.2.2.2 == 32)) else (some false)) else (some false)) else (some false)) else (some false)) else (some false)) else (some false)) else (some false)))) = some r := H
 have A2 := Aside0.mk A20
 clear A20
 replace H := Option.bind_eq_some_iff.mp H
 obtain ⟨⟨t170, t171, t172, t173⟩, A30, H⟩ := H
 replace H : ((computuslaw23_check.f (⟨#[103, 101, 110, 101, 114, 97, 116, 101, 95, 115, 101, 114, 105, 101, 115, 40, 49, 44, 32, 50, 44, 32, 49, 41, 32, 43, 32, 49]⟩ : ByteArray)).bind fun bt174 => (if t162 = 3 then (if t165 = 0 then (if t166 = 5 then (if t169 = 0 then (if t172 = 2 then (if t173 = 32 then (if bt174.2.2.1 = 0 then (some (bt174.2.2.2 == 32)) else (some false)) else (some false)) else (some false)) else (some false)) else (some false)) else (some false)) else (some false))) = some r := H
 have A3 := Aside0.mk A30
 clear A30
 replace H := Option.bind_eq_some_iff.mp H
 obtain ⟨⟨t174, t175, t176, t177⟩, A40, H⟩ := H
 replace H : (if t162 = 3 then (if t165 = 0 then (if t166 = 5 then (if t169 = 0 then (if t172 = 2 then (if t173 = 32 then (if t176 = 0 then (some (t177 == 32)) else (some false)) else (some false)) else (some false)) else (some false)) else (some false)) else (some false)) else (some false)) = some r := H
 have A4 := Aside0.mk A40
 clear A40
 by_cases c5 : t162 = 3
 ·rw [if_pos c5] at H
  have c5b0 : (t162 == 3) = true := beq_iff_eq.mpr c5
  have c5b1 : (t162 != 3) = false := bne_eq_false_iff_eq.mpr c5
  clear c5
  by_cases c6 : t165 = 0
  ·rw [if_pos c6] at H
   have c6b0 : (t165 == 0) = true := beq_iff_eq.mpr c6
   have c6b1 : (t165 != 0) = false := bne_eq_false_iff_eq.mpr c6
   clear c6
   by_cases c7 : t166 = 5
   ·rw [if_pos c7] at H
    have c7b0 : (t166 == 5) = true := beq_iff_eq.mpr c7
    have c7b1 : (t166 != 5) = false := bne_eq_false_iff_eq.mpr c7
    clear c7
    by_cases c8 : t169 = 0
    ·rw [if_pos c8] at H
     have c8b0 : (t169 == 0) = true := beq_iff_eq.mpr c8
     have c8b1 : (t169 != 0) = false := bne_eq_false_iff_eq.mpr c8
     clear c8
     by_cases c9 : t172 = 2
     ·rw [if_pos c9] at H
      have c9b0 : (t172 == 2) = true := beq_iff_eq.mpr c9
      have c9b1 : (t172 != 2) = false := bne_eq_false_iff_eq.mpr c9
      clear c9
      by_cases c10 : t173 = 32
      ·rw [if_pos c10] at H
       have c10b0 : (t173 == 32) = true := beq_iff_eq.mpr c10
       have c10b1 : (t173 != 32) = false := bne_eq_false_iff_eq.mpr c10
       clear c10
       by_cases c11 : t176 = 0
       ·rw [if_pos c11] at H
        have c11b0 : (t176 == 0) = true := beq_iff_eq.mpr c11
        have c11b1 : (t176 != 0) = false := bne_eq_false_iff_eq.mpr c11
        clear c11
        obtain rfl := Option.some.inj H
        go_enter Tryd.func7, Tryd.ntmps7
        go_wp2_with (first | ((with_reducible refine gate_callee (f := 9) rfl ?_); refine goesL_ (some 18) rfl rfl Tryd.func9 (by kernel_rfl) rfl #[.string (⟨#[49, 32, 43, 32, 49, 46, 53]⟩ : ByteArray)] rfl (by (try simp only [List.map_toArray, List.map_cons, List.map_nil]); first | done | rfl | (simp only [List.length_drop, List.length_take]; rfl)) ?_; (with_reducible refine (computuslaw23_check.calls (⟨#[49, 32, 43, 32, 49, 46, 53]⟩ : ByteArray) t162 t163 t164 t165 _ (HTW0.out.below (by repeat (first | (with_reducible first | exact HB.out | apply below_alloc | apply pw_below_drewN | apply below_drew1 ) | exact HB.out))) A1.out).mono ?_); rintro e w12 ⟨rfl, hb⟩; refine ⟨_, rfl, ?_⟩; have n0_ := Aside0.mk (below_step (by repeat (first | (with_reducible first | exact HB.out | apply below_alloc | apply pw_below_drewN | apply below_drew1) | exact HB.out)) hb); clear HB; have HB := n0_; clear n0_; (try clear hb); (try clear hb2); (try clear hk); (try clear hi)) | ((with_reducible refine gate_callee (f := 9) rfl ?_); refine goesL_ (some 24) rfl rfl Tryd.func9 (by kernel_rfl) rfl #[.string (⟨#[100, 97, 116, 101, 32, 39, 50, 48, 50, 52, 45, 48, 49, 45, 48, 49, 39, 32, 43, 32, 49]⟩ : ByteArray)] rfl (by (try simp only [List.map_toArray, List.map_cons, List.map_nil]); first | done | rfl | (simp only [List.length_drop, List.length_take]; rfl)) ?_; (with_reducible refine (computuslaw23_check.calls (⟨#[100, 97, 116, 101, 32, 39, 50, 48, 50, 52, 45, 48, 49, 45, 48, 49, 39, 32, 43, 32, 49]⟩ : ByteArray) t166 t167 t168 t169 _ (HTW0.out.below (by repeat (first | (with_reducible first | exact HB.out | apply below_alloc | apply pw_below_drewN | apply below_drew1 ) | exact HB.out))) A2.out).mono ?_); rintro e w13 ⟨rfl, hb⟩; refine ⟨_, rfl, ?_⟩; have n0_ := Aside0.mk (below_step (by repeat (first | (with_reducible first | exact HB.out | apply below_alloc | apply pw_below_drewN | apply below_drew1) | exact HB.out)) hb); clear HB; have HB := n0_; clear n0_; (try clear hb); (try clear hb2); (try clear hk); (try clear hi)) | ((with_reducible refine gate_callee (f := 9) rfl ?_); refine goesL_ (some 30) rfl rfl Tryd.func9 (by kernel_rfl) rfl #[.string (⟨#[49, 32, 43, 32, 116, 114, 117, 101]⟩ : ByteArray)] rfl (by (try simp only [List.map_toArray, List.map_cons, List.map_nil]); first | done | rfl | (simp only [List.length_drop, List.length_take]; rfl)) ?_; (with_reducible refine (computuslaw23_check.calls (⟨#[49, 32, 43, 32, 116, 114, 117, 101]⟩ : ByteArray) t170 t171 t172 t173 _ (HTW0.out.below (by repeat (first | (with_reducible first | exact HB.out | apply below_alloc | apply pw_below_drewN | apply below_drew1 ) | exact HB.out))) A3.out).mono ?_); rintro e w14 ⟨rfl, hb⟩; refine ⟨_, rfl, ?_⟩; have n0_ := Aside0.mk (below_step (by repeat (first | (with_reducible first | exact HB.out | apply below_alloc | apply pw_below_drewN | apply below_drew1) | exact HB.out)) hb); clear HB; have HB := n0_; clear n0_; (try clear hb); (try clear hb2); (try clear hk); (try clear hi)) | ((with_reducible refine gate_callee (f := 9) rfl ?_); refine goesL_ (some 36) rfl rfl Tryd.func9 (by kernel_rfl) rfl #[.string (⟨#[103, 101, 110, 101, 114, 97, 116, 101, 95, 115, 101, 114, 105, 101, 115, 40, 49, 44, 32, 50, 44, 32, 49, 41, 32, 43, 32, 49]⟩ : ByteArray)] rfl (by (try simp only [List.map_toArray, List.map_cons, List.map_nil]); first | done | rfl | (simp only [List.length_drop, List.length_take]; rfl)) ?_; (with_reducible refine (computuslaw23_check.calls (⟨#[103, 101, 110, 101, 114, 97, 116, 101, 95, 115, 101, 114, 105, 101, 115, 40, 49, 44, 32, 50, 44, 32, 49, 41, 32, 43, 32, 49]⟩ : ByteArray) t174 t175 t176 t177 _ (HTW0.out.below (by repeat (first | (with_reducible first | exact HB.out | apply below_alloc | apply pw_below_drewN | apply below_drew1 ) | exact HB.out))) A4.out).mono ?_); rintro e w15 ⟨rfl, hb⟩; refine ⟨_, rfl, ?_⟩; have n0_ := Aside0.mk (below_step (by repeat (first | (with_reducible first | exact HB.out | apply below_alloc | apply pw_below_drewN | apply below_drew1) | exact HB.out)) hb); clear HB; have HB := n0_; clear n0_; (try clear hb); (try clear hb2); (try clear hk); (try clear hi)))
        go_ret
        exact ⟨by first | rfl | (simp [errW_none, errW_some] <;> rfl) | (simp [*, errW_none, errW_some] <;> rfl), by repeat (first | (with_reducible first | exact HB.out | apply below_alloc | apply pw_below_drewN | apply below_drew1) | exact HB.out)⟩
       ·rw [if_neg c11] at H
        have c11b0 : (t176 == 0) = false := beq_eq_false_iff_ne.mpr c11
        have c11b1 : (t176 != 0) = true := bne_iff_ne.mpr c11
        obtain rfl := Option.some.inj H
        go_enter Tryd.func7, Tryd.ntmps7
        go_wp2_with (first | ((with_reducible refine gate_callee (f := 9) rfl ?_); refine goesL_ (some 18) rfl rfl Tryd.func9 (by kernel_rfl) rfl #[.string (⟨#[49, 32, 43, 32, 49, 46, 53]⟩ : ByteArray)] rfl (by (try simp only [List.map_toArray, List.map_cons, List.map_nil]); first | done | rfl | (simp only [List.length_drop, List.length_take]; rfl)) ?_; (with_reducible refine (computuslaw23_check.calls (⟨#[49, 32, 43, 32, 49, 46, 53]⟩ : ByteArray) t162 t163 t164 t165 _ (HTW0.out.below (by repeat (first | (with_reducible first | exact HB.out | apply below_alloc | apply pw_below_drewN | apply below_drew1 ) | exact HB.out))) A1.out).mono ?_); rintro e w16 ⟨rfl, hb⟩; refine ⟨_, rfl, ?_⟩; have n0_ := Aside0.mk (below_step (by repeat (first | (with_reducible first | exact HB.out | apply below_alloc | apply pw_below_drewN | apply below_drew1) | exact HB.out)) hb); clear HB; have HB := n0_; clear n0_; (try clear hb); (try clear hb2); (try clear hk); (try clear hi)) | ((with_reducible refine gate_callee (f := 9) rfl ?_); refine goesL_ (some 24) rfl rfl Tryd.func9 (by kernel_rfl) rfl #[.string (⟨#[100, 97, 116, 101, 32, 39, 50, 48, 50, 52, 45, 48, 49, 45, 48, 49, 39, 32, 43, 32, 49]⟩ : ByteArray)] rfl (by (try simp only [List.map_toArray, List.map_cons, List.map_nil]); first | done | rfl | (simp only [List.length_drop, List.length_take]; rfl)) ?_; (with_reducible refine (computuslaw23_check.calls (⟨#[100, 97, 116, 101, 32, 39, 50, 48, 50, 52, 45, 48, 49, 45, 48, 49, 39, 32, 43, 32, 49]⟩ : ByteArray) t166 t167 t168 t169 _ (HTW0.out.below (by repeat (first | (with_reducible first | exact HB.out | apply below_alloc | apply pw_below_drewN | apply below_drew1 ) | exact HB.out))) A2.out).mono ?_); rintro e w17 ⟨rfl, hb⟩; refine ⟨_, rfl, ?_⟩; have n0_ := Aside0.mk (below_step (by repeat (first | (with_reducible first | exact HB.out | apply below_alloc | apply pw_below_drewN | apply below_drew1) | exact HB.out)) hb); clear HB; have HB := n0_; clear n0_; (try clear hb); (try clear hb2); (try clear hk); (try clear hi)) | ((with_reducible refine gate_callee (f := 9) rfl ?_); refine goesL_ (some 30) rfl rfl Tryd.func9 (by kernel_rfl) rfl #[.string (⟨#[49, 32, 43, 32, 116, 114, 117, 101]⟩ : ByteArray)] rfl (by (try simp only [List.map_toArray, List.map_cons, List.map_nil]); first | done | rfl | (simp only [List.length_drop, List.length_take]; rfl)) ?_; (with_reducible refine (computuslaw23_check.calls (⟨#[49, 32, 43, 32, 116, 114, 117, 101]⟩ : ByteArray) t170 t171 t172 t173 _ (HTW0.out.below (by repeat (first | (with_reducible first | exact HB.out | apply below_alloc | apply pw_below_drewN | apply below_drew1 ) | exact HB.out))) A3.out).mono ?_); rintro e w18 ⟨rfl, hb⟩; refine ⟨_, rfl, ?_⟩; have n0_ := Aside0.mk (below_step (by repeat (first | (with_reducible first | exact HB.out | apply below_alloc | apply pw_below_drewN | apply below_drew1) | exact HB.out)) hb); clear HB; have HB := n0_; clear n0_; (try clear hb); (try clear hb2); (try clear hk); (try clear hi)) | ((with_reducible refine gate_callee (f := 9) rfl ?_); refine goesL_ (some 36) rfl rfl Tryd.func9 (by kernel_rfl) rfl #[.string (⟨#[103, 101, 110, 101, 114, 97, 116, 101, 95, 115, 101, 114, 105, 101, 115, 40, 49, 44, 32, 50, 44, 32, 49, 41, 32, 43, 32, 49]⟩ : ByteArray)] rfl (by (try simp only [List.map_toArray, List.map_cons, List.map_nil]); first | done | rfl | (simp only [List.length_drop, List.length_take]; rfl)) ?_; (with_reducible refine (computuslaw23_check.calls (⟨#[103, 101, 110, 101, 114, 97, 116, 101, 95, 115, 101, 114, 105, 101, 115, 40, 49, 44, 32, 50, 44, 32, 49, 41, 32, 43, 32, 49]⟩ : ByteArray) t174 t175 t176 t177 _ (HTW0.out.below (by repeat (first | (with_reducible first | exact HB.out | apply below_alloc | apply pw_below_drewN | apply below_drew1 ) | exact HB.out))) A4.out).mono ?_); rintro e w19 ⟨rfl, hb⟩; refine ⟨_, rfl, ?_⟩; have n0_ := Aside0.mk (below_step (by repeat (first | (with_reducible first | exact HB.out | apply below_alloc | apply pw_below_drewN | apply below_drew1) | exact HB.out)) hb); clear HB; have HB := n0_; clear n0_; (try clear hb); (try clear hb2); (try clear hk); (try clear hi)))
        go_ret
        exact ⟨by first | rfl | (simp [errW_none, errW_some] <;> rfl) | (simp [*, errW_none, errW_some] <;> rfl), by repeat (first | (with_reducible first | exact HB.out | apply below_alloc | apply pw_below_drewN | apply below_drew1) | exact HB.out)⟩
      ·rw [if_neg c10] at H
       have c10b0 : (t173 == 32) = false := beq_eq_false_iff_ne.mpr c10
       have c10b1 : (t173 != 32) = true := bne_iff_ne.mpr c10
       obtain rfl := Option.some.inj H
       go_enter Tryd.func7, Tryd.ntmps7
       go_wp2_with (first | ((with_reducible refine gate_callee (f := 9) rfl ?_); refine goesL_ (some 18) rfl rfl Tryd.func9 (by kernel_rfl) rfl #[.string (⟨#[49, 32, 43, 32, 49, 46, 53]⟩ : ByteArray)] rfl (by (try simp only [List.map_toArray, List.map_cons, List.map_nil]); first | done | rfl | (simp only [List.length_drop, List.length_take]; rfl)) ?_; (with_reducible refine (computuslaw23_check.calls (⟨#[49, 32, 43, 32, 49, 46, 53]⟩ : ByteArray) t162 t163 t164 t165 _ (HTW0.out.below (by repeat (first | (with_reducible first | exact HB.out | apply below_alloc | apply pw_below_drewN | apply below_drew1 ) | exact HB.out))) A1.out).mono ?_); rintro e w20 ⟨rfl, hb⟩; refine ⟨_, rfl, ?_⟩; have n0_ := Aside0.mk (below_step (by repeat (first | (with_reducible first | exact HB.out | apply below_alloc | apply pw_below_drewN | apply below_drew1) | exact HB.out)) hb); clear HB; have HB := n0_; clear n0_; (try clear hb); (try clear hb2); (try clear hk); (try clear hi)) | ((with_reducible refine gate_callee (f := 9) rfl ?_); refine goesL_ (some 24) rfl rfl Tryd.func9 (by kernel_rfl) rfl #[.string (⟨#[100, 97, 116, 101, 32, 39, 50, 48, 50, 52, 45, 48, 49, 45, 48, 49, 39, 32, 43, 32, 49]⟩ : ByteArray)] rfl (by (try simp only [List.map_toArray, List.map_cons, List.map_nil]); first | done | rfl | (simp only [List.length_drop, List.length_take]; rfl)) ?_; (with_reducible refine (computuslaw23_check.calls (⟨#[100, 97, 116, 101, 32, 39, 50, 48, 50, 52, 45, 48, 49, 45, 48, 49, 39, 32, 43, 32, 49]⟩ : ByteArray) t166 t167 t168 t169 _ (HTW0.out.below (by repeat (first | (with_reducible first | exact HB.out | apply below_alloc | apply pw_below_drewN | apply below_drew1 ) | exact HB.out))) A2.out).mono ?_); rintro e w21 ⟨rfl, hb⟩; refine ⟨_, rfl, ?_⟩; have n0_ := Aside0.mk (below_step (by repeat (first | (with_reducible first | exact HB.out | apply below_alloc | apply pw_below_drewN | apply below_drew1) | exact HB.out)) hb); clear HB; have HB := n0_; clear n0_; (try clear hb); (try clear hb2); (try clear hk); (try clear hi)) | ((with_reducible refine gate_callee (f := 9) rfl ?_); refine goesL_ (some 30) rfl rfl Tryd.func9 (by kernel_rfl) rfl #[.string (⟨#[49, 32, 43, 32, 116, 114, 117, 101]⟩ : ByteArray)] rfl (by (try simp only [List.map_toArray, List.map_cons, List.map_nil]); first | done | rfl | (simp only [List.length_drop, List.length_take]; rfl)) ?_; (with_reducible refine (computuslaw23_check.calls (⟨#[49, 32, 43, 32, 116, 114, 117, 101]⟩ : ByteArray) t170 t171 t172 t173 _ (HTW0.out.below (by repeat (first | (with_reducible first | exact HB.out | apply below_alloc | apply pw_below_drewN | apply below_drew1 ) | exact HB.out))) A3.out).mono ?_); rintro e w22 ⟨rfl, hb⟩; refine ⟨_, rfl, ?_⟩; have n0_ := Aside0.mk (below_step (by repeat (first | (with_reducible first | exact HB.out | apply below_alloc | apply pw_below_drewN | apply below_drew1) | exact HB.out)) hb); clear HB; have HB := n0_; clear n0_; (try clear hb); (try clear hb2); (try clear hk); (try clear hi)) | ((with_reducible refine gate_callee (f := 9) rfl ?_); refine goesL_ (some 36) rfl rfl Tryd.func9 (by kernel_rfl) rfl #[.string (⟨#[103, 101, 110, 101, 114, 97, 116, 101, 95, 115, 101, 114, 105, 101, 115, 40, 49, 44, 32, 50, 44, 32, 49, 41, 32, 43, 32, 49]⟩ : ByteArray)] rfl (by (try simp only [List.map_toArray, List.map_cons, List.map_nil]); first | done | rfl | (simp only [List.length_drop, List.length_take]; rfl)) ?_; (with_reducible refine (computuslaw23_check.calls (⟨#[103, 101, 110, 101, 114, 97, 116, 101, 95, 115, 101, 114, 105, 101, 115, 40, 49, 44, 32, 50, 44, 32, 49, 41, 32, 43, 32, 49]⟩ : ByteArray) t174 t175 t176 t177 _ (HTW0.out.below (by repeat (first | (with_reducible first | exact HB.out | apply below_alloc | apply pw_below_drewN | apply below_drew1 ) | exact HB.out))) A4.out).mono ?_); rintro e w23 ⟨rfl, hb⟩; refine ⟨_, rfl, ?_⟩; have n0_ := Aside0.mk (below_step (by repeat (first | (with_reducible first | exact HB.out | apply below_alloc | apply pw_below_drewN | apply below_drew1) | exact HB.out)) hb); clear HB; have HB := n0_; clear n0_; (try clear hb); (try clear hb2); (try clear hk); (try clear hi)))
       go_ret
       exact ⟨by first | rfl | (simp [errW_none, errW_some] <;> rfl) | (simp [*, errW_none, errW_some] <;> rfl), by repeat (first | (with_reducible first | exact HB.out | apply below_alloc | apply pw_below_drewN | apply below_drew1) | exact HB.out)⟩
     ·rw [if_neg c9] at H
      have c9b0 : (t172 == 2) = false := beq_eq_false_iff_ne.mpr c9
      have c9b1 : (t172 != 2) = true := bne_iff_ne.mpr c9
      obtain rfl := Option.some.inj H
      go_enter Tryd.func7, Tryd.ntmps7
      go_wp2_with (first | ((with_reducible refine gate_callee (f := 9) rfl ?_); refine goesL_ (some 18) rfl rfl Tryd.func9 (by kernel_rfl) rfl #[.string (⟨#[49, 32, 43, 32, 49, 46, 53]⟩ : ByteArray)] rfl (by (try simp only [List.map_toArray, List.map_cons, List.map_nil]); first | done | rfl | (simp only [List.length_drop, List.length_take]; rfl)) ?_; (with_reducible refine (computuslaw23_check.calls (⟨#[49, 32, 43, 32, 49, 46, 53]⟩ : ByteArray) t162 t163 t164 t165 _ (HTW0.out.below (by repeat (first | (with_reducible first | exact HB.out | apply below_alloc | apply pw_below_drewN | apply below_drew1 ) | exact HB.out))) A1.out).mono ?_); rintro e w24 ⟨rfl, hb⟩; refine ⟨_, rfl, ?_⟩; have n0_ := Aside0.mk (below_step (by repeat (first | (with_reducible first | exact HB.out | apply below_alloc | apply pw_below_drewN | apply below_drew1) | exact HB.out)) hb); clear HB; have HB := n0_; clear n0_; (try clear hb); (try clear hb2); (try clear hk); (try clear hi)) | ((with_reducible refine gate_callee (f := 9) rfl ?_); refine goesL_ (some 24) rfl rfl Tryd.func9 (by kernel_rfl) rfl #[.string (⟨#[100, 97, 116, 101, 32, 39, 50, 48, 50, 52, 45, 48, 49, 45, 48, 49, 39, 32, 43, 32, 49]⟩ : ByteArray)] rfl (by (try simp only [List.map_toArray, List.map_cons, List.map_nil]); first | done | rfl | (simp only [List.length_drop, List.length_take]; rfl)) ?_; (with_reducible refine (computuslaw23_check.calls (⟨#[100, 97, 116, 101, 32, 39, 50, 48, 50, 52, 45, 48, 49, 45, 48, 49, 39, 32, 43, 32, 49]⟩ : ByteArray) t166 t167 t168 t169 _ (HTW0.out.below (by repeat (first | (with_reducible first | exact HB.out | apply below_alloc | apply pw_below_drewN | apply below_drew1 ) | exact HB.out))) A2.out).mono ?_); rintro e w25 ⟨rfl, hb⟩; refine ⟨_, rfl, ?_⟩; have n0_ := Aside0.mk (below_step (by repeat (first | (with_reducible first | exact HB.out | apply below_alloc | apply pw_below_drewN | apply below_drew1) | exact HB.out)) hb); clear HB; have HB := n0_; clear n0_; (try clear hb); (try clear hb2); (try clear hk); (try clear hi)) | ((with_reducible refine gate_callee (f := 9) rfl ?_); refine goesL_ (some 30) rfl rfl Tryd.func9 (by kernel_rfl) rfl #[.string (⟨#[49, 32, 43, 32, 116, 114, 117, 101]⟩ : ByteArray)] rfl (by (try simp only [List.map_toArray, List.map_cons, List.map_nil]); first | done | rfl | (simp only [List.length_drop, List.length_take]; rfl)) ?_; (with_reducible refine (computuslaw23_check.calls (⟨#[49, 32, 43, 32, 116, 114, 117, 101]⟩ : ByteArray) t170 t171 t172 t173 _ (HTW0.out.below (by repeat (first | (with_reducible first | exact HB.out | apply below_alloc | apply pw_below_drewN | apply below_drew1 ) | exact HB.out))) A3.out).mono ?_); rintro e w26 ⟨rfl, hb⟩; refine ⟨_, rfl, ?_⟩; have n0_ := Aside0.mk (below_step (by repeat (first | (with_reducible first | exact HB.out | apply below_alloc | apply pw_below_drewN | apply below_drew1) | exact HB.out)) hb); clear HB; have HB := n0_; clear n0_; (try clear hb); (try clear hb2); (try clear hk); (try clear hi)) | ((with_reducible refine gate_callee (f := 9) rfl ?_); refine goesL_ (some 36) rfl rfl Tryd.func9 (by kernel_rfl) rfl #[.string (⟨#[103, 101, 110, 101, 114, 97, 116, 101, 95, 115, 101, 114, 105, 101, 115, 40, 49, 44, 32, 50, 44, 32, 49, 41, 32, 43, 32, 49]⟩ : ByteArray)] rfl (by (try simp only [List.map_toArray, List.map_cons, List.map_nil]); first | done | rfl | (simp only [List.length_drop, List.length_take]; rfl)) ?_; (with_reducible refine (computuslaw23_check.calls (⟨#[103, 101, 110, 101, 114, 97, 116, 101, 95, 115, 101, 114, 105, 101, 115, 40, 49, 44, 32, 50, 44, 32, 49, 41, 32, 43, 32, 49]⟩ : ByteArray) t174 t175 t176 t177 _ (HTW0.out.below (by repeat (first | (with_reducible first | exact HB.out | apply below_alloc | apply pw_below_drewN | apply below_drew1 ) | exact HB.out))) A4.out).mono ?_); rintro e w27 ⟨rfl, hb⟩; refine ⟨_, rfl, ?_⟩; have n0_ := Aside0.mk (below_step (by repeat (first | (with_reducible first | exact HB.out | apply below_alloc | apply pw_below_drewN | apply below_drew1) | exact HB.out)) hb); clear HB; have HB := n0_; clear n0_; (try clear hb); (try clear hb2); (try clear hk); (try clear hi)))
      go_ret
      exact ⟨by first | rfl | (simp [errW_none, errW_some] <;> rfl) | (simp [*, errW_none, errW_some] <;> rfl), by repeat (first | (with_reducible first | exact HB.out | apply below_alloc | apply pw_below_drewN | apply below_drew1) | exact HB.out)⟩
    ·rw [if_neg c8] at H
     have c8b0 : (t169 == 0) = false := beq_eq_false_iff_ne.mpr c8
     have c8b1 : (t169 != 0) = true := bne_iff_ne.mpr c8
     obtain rfl := Option.some.inj H
     go_enter Tryd.func7, Tryd.ntmps7
     go_wp2_with (first | ((with_reducible refine gate_callee (f := 9) rfl ?_); refine goesL_ (some 18) rfl rfl Tryd.func9 (by kernel_rfl) rfl #[.string (⟨#[49, 32, 43, 32, 49, 46, 53]⟩ : ByteArray)] rfl (by (try simp only [List.map_toArray, List.map_cons, List.map_nil]); first | done | rfl | (simp only [List.length_drop, List.length_take]; rfl)) ?_; (with_reducible refine (computuslaw23_check.calls (⟨#[49, 32, 43, 32, 49, 46, 53]⟩ : ByteArray) t162 t163 t164 t165 _ (HTW0.out.below (by repeat (first | (with_reducible first | exact HB.out | apply below_alloc | apply pw_below_drewN | apply below_drew1 ) | exact HB.out))) A1.out).mono ?_); rintro e w28 ⟨rfl, hb⟩; refine ⟨_, rfl, ?_⟩; have n0_ := Aside0.mk (below_step (by repeat (first | (with_reducible first | exact HB.out | apply below_alloc | apply pw_below_drewN | apply below_drew1) | exact HB.out)) hb); clear HB; have HB := n0_; clear n0_; (try clear hb); (try clear hb2); (try clear hk); (try clear hi)) | ((with_reducible refine gate_callee (f := 9) rfl ?_); refine goesL_ (some 24) rfl rfl Tryd.func9 (by kernel_rfl) rfl #[.string (⟨#[100, 97, 116, 101, 32, 39, 50, 48, 50, 52, 45, 48, 49, 45, 48, 49, 39, 32, 43, 32, 49]⟩ : ByteArray)] rfl (by (try simp only [List.map_toArray, List.map_cons, List.map_nil]); first | done | rfl | (simp only [List.length_drop, List.length_take]; rfl)) ?_; (with_reducible refine (computuslaw23_check.calls (⟨#[100, 97, 116, 101, 32, 39, 50, 48, 50, 52, 45, 48, 49, 45, 48, 49, 39, 32, 43, 32, 49]⟩ : ByteArray) t166 t167 t168 t169 _ (HTW0.out.below (by repeat (first | (with_reducible first | exact HB.out | apply below_alloc | apply pw_below_drewN | apply below_drew1 ) | exact HB.out))) A2.out).mono ?_); rintro e w29 ⟨rfl, hb⟩; refine ⟨_, rfl, ?_⟩; have n0_ := Aside0.mk (below_step (by repeat (first | (with_reducible first | exact HB.out | apply below_alloc | apply pw_below_drewN | apply below_drew1) | exact HB.out)) hb); clear HB; have HB := n0_; clear n0_; (try clear hb); (try clear hb2); (try clear hk); (try clear hi)) | ((with_reducible refine gate_callee (f := 9) rfl ?_); refine goesL_ (some 30) rfl rfl Tryd.func9 (by kernel_rfl) rfl #[.string (⟨#[49, 32, 43, 32, 116, 114, 117, 101]⟩ : ByteArray)] rfl (by (try simp only [List.map_toArray, List.map_cons, List.map_nil]); first | done | rfl | (simp only [List.length_drop, List.length_take]; rfl)) ?_; (with_reducible refine (computuslaw23_check.calls (⟨#[49, 32, 43, 32, 116, 114, 117, 101]⟩ : ByteArray) t170 t171 t172 t173 _ (HTW0.out.below (by repeat (first | (with_reducible first | exact HB.out | apply below_alloc | apply pw_below_drewN | apply below_drew1 ) | exact HB.out))) A3.out).mono ?_); rintro e w30 ⟨rfl, hb⟩; refine ⟨_, rfl, ?_⟩; have n0_ := Aside0.mk (below_step (by repeat (first | (with_reducible first | exact HB.out | apply below_alloc | apply pw_below_drewN | apply below_drew1) | exact HB.out)) hb); clear HB; have HB := n0_; clear n0_; (try clear hb); (try clear hb2); (try clear hk); (try clear hi)) | ((with_reducible refine gate_callee (f := 9) rfl ?_); refine goesL_ (some 36) rfl rfl Tryd.func9 (by kernel_rfl) rfl #[.string (⟨#[103, 101, 110, 101, 114, 97, 116, 101, 95, 115, 101, 114, 105, 101, 115, 40, 49, 44, 32, 50, 44, 32, 49, 41, 32, 43, 32, 49]⟩ : ByteArray)] rfl (by (try simp only [List.map_toArray, List.map_cons, List.map_nil]); first | done | rfl | (simp only [List.length_drop, List.length_take]; rfl)) ?_; (with_reducible refine (computuslaw23_check.calls (⟨#[103, 101, 110, 101, 114, 97, 116, 101, 95, 115, 101, 114, 105, 101, 115, 40, 49, 44, 32, 50, 44, 32, 49, 41, 32, 43, 32, 49]⟩ : ByteArray) t174 t175 t176 t177 _ (HTW0.out.below (by repeat (first | (with_reducible first | exact HB.out | apply below_alloc | apply pw_below_drewN | apply below_drew1 ) | exact HB.out))) A4.out).mono ?_); rintro e w31 ⟨rfl, hb⟩; refine ⟨_, rfl, ?_⟩; have n0_ := Aside0.mk (below_step (by repeat (first | (with_reducible first | exact HB.out | apply below_alloc | apply pw_below_drewN | apply below_drew1) | exact HB.out)) hb); clear HB; have HB := n0_; clear n0_; (try clear hb); (try clear hb2); (try clear hk); (try clear hi)))
     go_ret
     exact ⟨by first | rfl | (simp [errW_none, errW_some] <;> rfl) | (simp [*, errW_none, errW_some] <;> rfl), by repeat (first | (with_reducible first | exact HB.out | apply below_alloc | apply pw_below_drewN | apply below_drew1) | exact HB.out)⟩
   ·rw [if_neg c7] at H
    have c7b0 : (t166 == 5) = false := beq_eq_false_iff_ne.mpr c7
    have c7b1 : (t166 != 5) = true := bne_iff_ne.mpr c7
    obtain rfl := Option.some.inj H
    go_enter Tryd.func7, Tryd.ntmps7
    go_wp2_with (first | ((with_reducible refine gate_callee (f := 9) rfl ?_); refine goesL_ (some 18) rfl rfl Tryd.func9 (by kernel_rfl) rfl #[.string (⟨#[49, 32, 43, 32, 49, 46, 53]⟩ : ByteArray)] rfl (by (try simp only [List.map_toArray, List.map_cons, List.map_nil]); first | done | rfl | (simp only [List.length_drop, List.length_take]; rfl)) ?_; (with_reducible refine (computuslaw23_check.calls (⟨#[49, 32, 43, 32, 49, 46, 53]⟩ : ByteArray) t162 t163 t164 t165 _ (HTW0.out.below (by repeat (first | (with_reducible first | exact HB.out | apply below_alloc | apply pw_below_drewN | apply below_drew1 ) | exact HB.out))) A1.out).mono ?_); rintro e w32 ⟨rfl, hb⟩; refine ⟨_, rfl, ?_⟩; have n0_ := Aside0.mk (below_step (by repeat (first | (with_reducible first | exact HB.out | apply below_alloc | apply pw_below_drewN | apply below_drew1) | exact HB.out)) hb); clear HB; have HB := n0_; clear n0_; (try clear hb); (try clear hb2); (try clear hk); (try clear hi)) | ((with_reducible refine gate_callee (f := 9) rfl ?_); refine goesL_ (some 24) rfl rfl Tryd.func9 (by kernel_rfl) rfl #[.string (⟨#[100, 97, 116, 101, 32, 39, 50, 48, 50, 52, 45, 48, 49, 45, 48, 49, 39, 32, 43, 32, 49]⟩ : ByteArray)] rfl (by (try simp only [List.map_toArray, List.map_cons, List.map_nil]); first | done | rfl | (simp only [List.length_drop, List.length_take]; rfl)) ?_; (with_reducible refine (computuslaw23_check.calls (⟨#[100, 97, 116, 101, 32, 39, 50, 48, 50, 52, 45, 48, 49, 45, 48, 49, 39, 32, 43, 32, 49]⟩ : ByteArray) t166 t167 t168 t169 _ (HTW0.out.below (by repeat (first | (with_reducible first | exact HB.out | apply below_alloc | apply pw_below_drewN | apply below_drew1 ) | exact HB.out))) A2.out).mono ?_); rintro e w33 ⟨rfl, hb⟩; refine ⟨_, rfl, ?_⟩; have n0_ := Aside0.mk (below_step (by repeat (first | (with_reducible first | exact HB.out | apply below_alloc | apply pw_below_drewN | apply below_drew1) | exact HB.out)) hb); clear HB; have HB := n0_; clear n0_; (try clear hb); (try clear hb2); (try clear hk); (try clear hi)) | ((with_reducible refine gate_callee (f := 9) rfl ?_); refine goesL_ (some 30) rfl rfl Tryd.func9 (by kernel_rfl) rfl #[.string (⟨#[49, 32, 43, 32, 116, 114, 117, 101]⟩ : ByteArray)] rfl (by (try simp only [List.map_toArray, List.map_cons, List.map_nil]); first | done | rfl | (simp only [List.length_drop, List.length_take]; rfl)) ?_; (with_reducible refine (computuslaw23_check.calls (⟨#[49, 32, 43, 32, 116, 114, 117, 101]⟩ : ByteArray) t170 t171 t172 t173 _ (HTW0.out.below (by repeat (first | (with_reducible first | exact HB.out | apply below_alloc | apply pw_below_drewN | apply below_drew1 ) | exact HB.out))) A3.out).mono ?_); rintro e w34 ⟨rfl, hb⟩; refine ⟨_, rfl, ?_⟩; have n0_ := Aside0.mk (below_step (by repeat (first | (with_reducible first | exact HB.out | apply below_alloc | apply pw_below_drewN | apply below_drew1) | exact HB.out)) hb); clear HB; have HB := n0_; clear n0_; (try clear hb); (try clear hb2); (try clear hk); (try clear hi)) | ((with_reducible refine gate_callee (f := 9) rfl ?_); refine goesL_ (some 36) rfl rfl Tryd.func9 (by kernel_rfl) rfl #[.string (⟨#[103, 101, 110, 101, 114, 97, 116, 101, 95, 115, 101, 114, 105, 101, 115, 40, 49, 44, 32, 50, 44, 32, 49, 41, 32, 43, 32, 49]⟩ : ByteArray)] rfl (by (try simp only [List.map_toArray, List.map_cons, List.map_nil]); first | done | rfl | (simp only [List.length_drop, List.length_take]; rfl)) ?_; (with_reducible refine (computuslaw23_check.calls (⟨#[103, 101, 110, 101, 114, 97, 116, 101, 95, 115, 101, 114, 105, 101, 115, 40, 49, 44, 32, 50, 44, 32, 49, 41, 32, 43, 32, 49]⟩ : ByteArray) t174 t175 t176 t177 _ (HTW0.out.below (by repeat (first | (with_reducible first | exact HB.out | apply below_alloc | apply pw_below_drewN | apply below_drew1 ) | exact HB.out))) A4.out).mono ?_); rintro e w35 ⟨rfl, hb⟩; refine ⟨_, rfl, ?_⟩; have n0_ := Aside0.mk (below_step (by repeat (first | (with_reducible first | exact HB.out | apply below_alloc | apply pw_below_drewN | apply below_drew1) | exact HB.out)) hb); clear HB; have HB := n0_; clear n0_; (try clear hb); (try clear hb2); (try clear hk); (try clear hi)))
    go_ret
    exact ⟨by first | rfl | (simp [errW_none, errW_some] <;> rfl) | (simp [*, errW_none, errW_some] <;> rfl), by repeat (first | (with_reducible first | exact HB.out | apply below_alloc | apply pw_below_drewN | apply below_drew1) | exact HB.out)⟩
  ·rw [if_neg c6] at H
   have c6b0 : (t165 == 0) = false := beq_eq_false_iff_ne.mpr c6
   have c6b1 : (t165 != 0) = true := bne_iff_ne.mpr c6
   obtain rfl := Option.some.inj H
   go_enter Tryd.func7, Tryd.ntmps7
   go_wp2_with (first | ((with_reducible refine gate_callee (f := 9) rfl ?_); refine goesL_ (some 18) rfl rfl Tryd.func9 (by kernel_rfl) rfl #[.string (⟨#[49, 32, 43, 32, 49, 46, 53]⟩ : ByteArray)] rfl (by (try simp only [List.map_toArray, List.map_cons, List.map_nil]); first | done | rfl | (simp only [List.length_drop, List.length_take]; rfl)) ?_; (with_reducible refine (computuslaw23_check.calls (⟨#[49, 32, 43, 32, 49, 46, 53]⟩ : ByteArray) t162 t163 t164 t165 _ (HTW0.out.below (by repeat (first | (with_reducible first | exact HB.out | apply below_alloc | apply pw_below_drewN | apply below_drew1 ) | exact HB.out))) A1.out).mono ?_); rintro e w36 ⟨rfl, hb⟩; refine ⟨_, rfl, ?_⟩; have n0_ := Aside0.mk (below_step (by repeat (first | (with_reducible first | exact HB.out | apply below_alloc | apply pw_below_drewN | apply below_drew1) | exact HB.out)) hb); clear HB; have HB := n0_; clear n0_; (try clear hb); (try clear hb2); (try clear hk); (try clear hi)) | ((with_reducible refine gate_callee (f := 9) rfl ?_); refine goesL_ (some 24) rfl rfl Tryd.func9 (by kernel_rfl) rfl #[.string (⟨#[100, 97, 116, 101, 32, 39, 50, 48, 50, 52, 45, 48, 49, 45, 48, 49, 39, 32, 43, 32, 49]⟩ : ByteArray)] rfl (by (try simp only [List.map_toArray, List.map_cons, List.map_nil]); first | done | rfl | (simp only [List.length_drop, List.length_take]; rfl)) ?_; (with_reducible refine (computuslaw23_check.calls (⟨#[100, 97, 116, 101, 32, 39, 50, 48, 50, 52, 45, 48, 49, 45, 48, 49, 39, 32, 43, 32, 49]⟩ : ByteArray) t166 t167 t168 t169 _ (HTW0.out.below (by repeat (first | (with_reducible first | exact HB.out | apply below_alloc | apply pw_below_drewN | apply below_drew1 ) | exact HB.out))) A2.out).mono ?_); rintro e w37 ⟨rfl, hb⟩; refine ⟨_, rfl, ?_⟩; have n0_ := Aside0.mk (below_step (by repeat (first | (with_reducible first | exact HB.out | apply below_alloc | apply pw_below_drewN | apply below_drew1) | exact HB.out)) hb); clear HB; have HB := n0_; clear n0_; (try clear hb); (try clear hb2); (try clear hk); (try clear hi)) | ((with_reducible refine gate_callee (f := 9) rfl ?_); refine goesL_ (some 30) rfl rfl Tryd.func9 (by kernel_rfl) rfl #[.string (⟨#[49, 32, 43, 32, 116, 114, 117, 101]⟩ : ByteArray)] rfl (by (try simp only [List.map_toArray, List.map_cons, List.map_nil]); first | done | rfl | (simp only [List.length_drop, List.length_take]; rfl)) ?_; (with_reducible refine (computuslaw23_check.calls (⟨#[49, 32, 43, 32, 116, 114, 117, 101]⟩ : ByteArray) t170 t171 t172 t173 _ (HTW0.out.below (by repeat (first | (with_reducible first | exact HB.out | apply below_alloc | apply pw_below_drewN | apply below_drew1 ) | exact HB.out))) A3.out).mono ?_); rintro e w38 ⟨rfl, hb⟩; refine ⟨_, rfl, ?_⟩; have n0_ := Aside0.mk (below_step (by repeat (first | (with_reducible first | exact HB.out | apply below_alloc | apply pw_below_drewN | apply below_drew1) | exact HB.out)) hb); clear HB; have HB := n0_; clear n0_; (try clear hb); (try clear hb2); (try clear hk); (try clear hi)) | ((with_reducible refine gate_callee (f := 9) rfl ?_); refine goesL_ (some 36) rfl rfl Tryd.func9 (by kernel_rfl) rfl #[.string (⟨#[103, 101, 110, 101, 114, 97, 116, 101, 95, 115, 101, 114, 105, 101, 115, 40, 49, 44, 32, 50, 44, 32, 49, 41, 32, 43, 32, 49]⟩ : ByteArray)] rfl (by (try simp only [List.map_toArray, List.map_cons, List.map_nil]); first | done | rfl | (simp only [List.length_drop, List.length_take]; rfl)) ?_; (with_reducible refine (computuslaw23_check.calls (⟨#[103, 101, 110, 101, 114, 97, 116, 101, 95, 115, 101, 114, 105, 101, 115, 40, 49, 44, 32, 50, 44, 32, 49, 41, 32, 43, 32, 49]⟩ : ByteArray) t174 t175 t176 t177 _ (HTW0.out.below (by repeat (first | (with_reducible first | exact HB.out | apply below_alloc | apply pw_below_drewN | apply below_drew1 ) | exact HB.out))) A4.out).mono ?_); rintro e w39 ⟨rfl, hb⟩; refine ⟨_, rfl, ?_⟩; have n0_ := Aside0.mk (below_step (by repeat (first | (with_reducible first | exact HB.out | apply below_alloc | apply pw_below_drewN | apply below_drew1) | exact HB.out)) hb); clear HB; have HB := n0_; clear n0_; (try clear hb); (try clear hb2); (try clear hk); (try clear hi)))
   go_ret
   exact ⟨by first | rfl | (simp [errW_none, errW_some] <;> rfl) | (simp [*, errW_none, errW_some] <;> rfl), by repeat (first | (with_reducible first | exact HB.out | apply below_alloc | apply pw_below_drewN | apply below_drew1) | exact HB.out)⟩
 ·rw [if_neg c5] at H
  have c5b0 : (t162 == 3) = false := beq_eq_false_iff_ne.mpr c5
  have c5b1 : (t162 != 3) = true := bne_iff_ne.mpr c5
  obtain rfl := Option.some.inj H
  go_enter Tryd.func7, Tryd.ntmps7
  go_wp2_with (first | ((with_reducible refine gate_callee (f := 9) rfl ?_); refine goesL_ (some 18) rfl rfl Tryd.func9 (by kernel_rfl) rfl #[.string (⟨#[49, 32, 43, 32, 49, 46, 53]⟩ : ByteArray)] rfl (by (try simp only [List.map_toArray, List.map_cons, List.map_nil]); first | done | rfl | (simp only [List.length_drop, List.length_take]; rfl)) ?_; (with_reducible refine (computuslaw23_check.calls (⟨#[49, 32, 43, 32, 49, 46, 53]⟩ : ByteArray) t162 t163 t164 t165 _ (HTW0.out.below (by repeat (first | (with_reducible first | exact HB.out | apply below_alloc | apply pw_below_drewN | apply below_drew1 ) | exact HB.out))) A1.out).mono ?_); rintro e w40 ⟨rfl, hb⟩; refine ⟨_, rfl, ?_⟩; have n0_ := Aside0.mk (below_step (by repeat (first | (with_reducible first | exact HB.out | apply below_alloc | apply pw_below_drewN | apply below_drew1) | exact HB.out)) hb); clear HB; have HB := n0_; clear n0_; (try clear hb); (try clear hb2); (try clear hk); (try clear hi)) | ((with_reducible refine gate_callee (f := 9) rfl ?_); refine goesL_ (some 24) rfl rfl Tryd.func9 (by kernel_rfl) rfl #[.string (⟨#[100, 97, 116, 101, 32, 39, 50, 48, 50, 52, 45, 48, 49, 45, 48, 49, 39, 32, 43, 32, 49]⟩ : ByteArray)] rfl (by (try simp only [List.map_toArray, List.map_cons, List.map_nil]); first | done | rfl | (simp only [List.length_drop, List.length_take]; rfl)) ?_; (with_reducible refine (computuslaw23_check.calls (⟨#[100, 97, 116, 101, 32, 39, 50, 48, 50, 52, 45, 48, 49, 45, 48, 49, 39, 32, 43, 32, 49]⟩ : ByteArray) t166 t167 t168 t169 _ (HTW0.out.below (by repeat (first | (with_reducible first | exact HB.out | apply below_alloc | apply pw_below_drewN | apply below_drew1 ) | exact HB.out))) A2.out).mono ?_); rintro e w41 ⟨rfl, hb⟩; refine ⟨_, rfl, ?_⟩; have n0_ := Aside0.mk (below_step (by repeat (first | (with_reducible first | exact HB.out | apply below_alloc | apply pw_below_drewN | apply below_drew1) | exact HB.out)) hb); clear HB; have HB := n0_; clear n0_; (try clear hb); (try clear hb2); (try clear hk); (try clear hi)) | ((with_reducible refine gate_callee (f := 9) rfl ?_); refine goesL_ (some 30) rfl rfl Tryd.func9 (by kernel_rfl) rfl #[.string (⟨#[49, 32, 43, 32, 116, 114, 117, 101]⟩ : ByteArray)] rfl (by (try simp only [List.map_toArray, List.map_cons, List.map_nil]); first | done | rfl | (simp only [List.length_drop, List.length_take]; rfl)) ?_; (with_reducible refine (computuslaw23_check.calls (⟨#[49, 32, 43, 32, 116, 114, 117, 101]⟩ : ByteArray) t170 t171 t172 t173 _ (HTW0.out.below (by repeat (first | (with_reducible first | exact HB.out | apply below_alloc | apply pw_below_drewN | apply below_drew1 ) | exact HB.out))) A3.out).mono ?_); rintro e w42 ⟨rfl, hb⟩; refine ⟨_, rfl, ?_⟩; have n0_ := Aside0.mk (below_step (by repeat (first | (with_reducible first | exact HB.out | apply below_alloc | apply pw_below_drewN | apply below_drew1) | exact HB.out)) hb); clear HB; have HB := n0_; clear n0_; (try clear hb); (try clear hb2); (try clear hk); (try clear hi)) | ((with_reducible refine gate_callee (f := 9) rfl ?_); refine goesL_ (some 36) rfl rfl Tryd.func9 (by kernel_rfl) rfl #[.string (⟨#[103, 101, 110, 101, 114, 97, 116, 101, 95, 115, 101, 114, 105, 101, 115, 40, 49, 44, 32, 50, 44, 32, 49, 41, 32, 43, 32, 49]⟩ : ByteArray)] rfl (by (try simp only [List.map_toArray, List.map_cons, List.map_nil]); first | done | rfl | (simp only [List.length_drop, List.length_take]; rfl)) ?_; (with_reducible refine (computuslaw23_check.calls (⟨#[103, 101, 110, 101, 114, 97, 116, 101, 95, 115, 101, 114, 105, 101, 115, 40, 49, 44, 32, 50, 44, 32, 49, 41, 32, 43, 32, 49]⟩ : ByteArray) t174 t175 t176 t177 _ (HTW0.out.below (by repeat (first | (with_reducible first | exact HB.out | apply below_alloc | apply pw_below_drewN | apply below_drew1 ) | exact HB.out))) A4.out).mono ?_); rintro e w43 ⟨rfl, hb⟩; refine ⟨_, rfl, ?_⟩; have n0_ := Aside0.mk (below_step (by repeat (first | (with_reducible first | exact HB.out | apply below_alloc | apply pw_below_drewN | apply below_drew1) | exact HB.out)) hb); clear HB; have HB := n0_; clear n0_; (try clear hb); (try clear hb2); (try clear hk); (try clear hi)))
  go_ret
  exact ⟨by first | rfl | (simp [errW_none, errW_some] <;> rfl) | (simp [*, errW_none, errW_some] <;> rfl), by repeat (first | (with_reducible first | exact HB.out | apply below_alloc | apply pw_below_drewN | apply below_drew1) | exact HB.out)⟩
mutual
def computusref23_Find.j0 : Nat → ByteArray → List Int → Bool → Bool → Option (Int × Bool × Bool)
 | 0, _, _, _, _ => none
 | k + 1, x0, x1, x8, x24 => if x24 = true then (if 0 < (x1.length : Int) then (if 1 < (x1.length : Int) then (if (rd x1 0) = 2 then (if (rd x1 1) = 2 then (some (1, false, true)) else (if (rd x1 1) = 3 then (some (1, false, true)) else (if (rd x1 0) = (rd x1 1) then (if (rd x1 0) ≥ 4 then (if (rd x1 0) ≤ 8 then (some (1, false, true)) else (if x8 = true then (if (rd x1 0) = 1 then (if (rd x1 1) = 1 then (some (1, false, true)) else (computusref23_Find.j1 k x0 x1)) else (computusref23_Find.j1 k x0 x1)) else (computusref23_Find.j1 k x0 x1))) else (if x8 = true then (if (rd x1 0) = 1 then (if (rd x1 1) = 1 then (some (1, false, true)) else (computusref23_Find.j1 k x0 x1)) else (computusref23_Find.j1 k x0 x1)) else (computusref23_Find.j1 k x0 x1))) else (if x8 = true then (if (rd x1 0) = 1 then (if (rd x1 1) = 1 then (some (1, false, true)) else (computusref23_Find.j1 k x0 x1)) else (computusref23_Find.j1 k x0 x1)) else (computusref23_Find.j1 k x0 x1))))) else (if (rd x1 0) = 3 then (if (rd x1 1) = 2 then (some (1, false, true)) else (if (rd x1 1) = 3 then (some (1, false, true)) else (if (rd x1 0) = (rd x1 1) then (if (rd x1 0) ≥ 4 then (if (rd x1 0) ≤ 8 then (some (1, false, true)) else (if x8 = true then (if (rd x1 0) = 1 then (if (rd x1 1) = 1 then (some (1, false, true)) else (computusref23_Find.j1 k x0 x1)) else (computusref23_Find.j1 k x0 x1)) else (computusref23_Find.j1 k x0 x1))) else (if x8 = true then (if (rd x1 0) = 1 then (if (rd x1 1) = 1 then (some (1, false, true)) else (computusref23_Find.j1 k x0 x1)) else (computusref23_Find.j1 k x0 x1)) else (computusref23_Find.j1 k x0 x1))) else (if x8 = true then (if (rd x1 0) = 1 then (if (rd x1 1) = 1 then (some (1, false, true)) else (computusref23_Find.j1 k x0 x1)) else (computusref23_Find.j1 k x0 x1)) else (computusref23_Find.j1 k x0 x1))))) else (if (rd x1 0) = (rd x1 1) then (if (rd x1 0) ≥ 4 then (if (rd x1 0) ≤ 8 then (some (1, false, true)) else (if x8 = true then (if (rd x1 0) = 1 then (if (rd x1 1) = 1 then (some (1, false, true)) else (computusref23_Find.j1 k x0 x1)) else (computusref23_Find.j1 k x0 x1)) else (computusref23_Find.j1 k x0 x1))) else (if x8 = true then (if (rd x1 0) = 1 then (if (rd x1 1) = 1 then (some (1, false, true)) else (computusref23_Find.j1 k x0 x1)) else (computusref23_Find.j1 k x0 x1)) else (computusref23_Find.j1 k x0 x1))) else (if x8 = true then (if (rd x1 0) = 1 then (if (rd x1 1) = 1 then (some (1, false, true)) else (computusref23_Find.j1 k x0 x1)) else (computusref23_Find.j1 k x0 x1)) else (computusref23_Find.j1 k x0 x1))))) else (none)) else (none)) else (computusref23_Find.j1 k x0 x1)
def computusref23_Find.j1 : Nat → ByteArray → List Int → Option (Int × Bool × Bool)
 | 0, _, _ => none
 | k + 1, x0, x1 => (computusref23_Table.f).bind fun t228 => (computusref23_Find.l0 k x0 x1 t228 0)
def computusref23_Find.l0 : Nat → ByteArray → List Int → List (S27) → Int → Option (Int × Bool × Bool)
 | 0, _, _, _, _ => none
 | k + 1, x0, x1, x12, x13 => if x13 < (x12.length : Int) then (if 0 ≤ x13 then (if ((rd_T27 x12 x13).f0).toList = x0.toList then ((computusref23_same.f k ((rd_T27 x12 x13).f1) x1).bind fun t233 => (if t233 = true then (some ((rd_T27 x12 x13).f2, (x0.toList == ([103, 101, 110, 101, 114, 97, 116, 101, 95, 115, 101, 114, 105, 101, 115] : List UInt8)), true)) else (computusref23_Find.l0 k x0 x1 x12 (wrap64 (x13 + 1))))) else (computusref23_Find.l0 k x0 x1 x12 (wrap64 (x13 + 1)))) else (none)) else (some (0, false, false))
end
def computusref23_Find.f (k : Nat) (a0 : ByteArray) (l1 : List Int) : Option (Int × Bool × Bool) := (computusref23_compares.f a0).bind fun bt224 => (if bt224.1 = true then (computusref23_Find.j0 k a0 l1 bt224.2 ((l1.length : Int) == 2)) else (computusref23_Find.j0 k a0 l1 bt224.2 false))
theorem computusref23_Find.mono_l : ∀ k, (∀ y0 y1 y2 y3, LeO (computusref23_Find.j0 k y0 y1 y2 y3) (computusref23_Find.j0 (k + 1) y0 y1 y2 y3)) ∧ (∀ y0 y1, LeO (computusref23_Find.j1 k y0 y1) (computusref23_Find.j1 (k + 1) y0 y1)) ∧ (∀ y0 y1 y2 y3, LeO (computusref23_Find.l0 k y0 y1 y2 y3) (computusref23_Find.l0 (k + 1) y0 y1 y2 y3))
 | 0 => ⟨fun _ _ _ _ r h => by simp [computusref23_Find.j0] at h, fun _ _ r h => by simp [computusref23_Find.j1] at h, fun _ _ _ _ r h => by simp [computusref23_Find.l0] at h⟩
 | k + 1 => by
  obtain ⟨ih0, ih1, ih2⟩ := computusref23_Find.mono_l k
  refine ⟨?_, ?_, ?_⟩
  ·intro y0 y1 y2 y3
   unfold computusref23_Find.j0
   repeat' first
   | (with_reducible exact ih0 _ _ _ _)
   | (with_reducible exact ih1 _ _)
   | (with_reducible exact ih2 _ _ _ _)
   | (with_reducible exact computusref23_same.mono _ _ _)
   | (with_reducible exact LeO.refl _)
   | (with_reducible exact LeO.none _)
   | (with_reducible refine LeO.ite ?_ ?_)
   | (with_reducible refine LeO.bind ?_ (fun _ => ?_))
   | exact ih0 _ _ _ _
   | exact ih1 _ _
   | exact ih2 _ _ _ _
   | exact computusref23_same.mono _ _ _
   | exact LeO.none _
   | refine LeO.ite ?_ ?_
   | refine LeO.bind ?_ (fun _ => ?_)
  ·intro y0 y1
   unfold computusref23_Find.j1
   repeat' first
   | (with_reducible exact ih0 _ _ _ _)
   | (with_reducible exact ih1 _ _)
   | (with_reducible exact ih2 _ _ _ _)
   | (with_reducible exact computusref23_same.mono _ _ _)
   | (with_reducible exact LeO.refl _)
   | (with_reducible exact LeO.none _)
   | (with_reducible refine LeO.ite ?_ ?_)
   | (with_reducible refine LeO.bind ?_ (fun _ => ?_))
   | exact ih0 _ _ _ _
   | exact ih1 _ _
   | exact ih2 _ _ _ _
   | exact computusref23_same.mono _ _ _
   | exact LeO.none _
   | refine LeO.ite ?_ ?_
   | refine LeO.bind ?_ (fun _ => ?_)
  ·intro y0 y1 y2 y3
   unfold computusref23_Find.l0
   repeat' first
   | (with_reducible exact ih0 _ _ _ _)
   | (with_reducible exact ih1 _ _)
   | (with_reducible exact ih2 _ _ _ _)
   | (with_reducible exact computusref23_same.mono _ _ _)
   | (with_reducible exact LeO.refl _)
   | (with_reducible exact LeO.none _)
   | (with_reducible refine LeO.ite ?_ ?_)
   | (with_reducible refine LeO.bind ?_ (fun _ => ?_))
   | exact ih0 _ _ _ _
   | exact ih1 _ _
   | exact ih2 _ _ _ _
   | exact computusref23_same.mono _ _ _
   | exact LeO.none _
   | refine LeO.ite ?_ ?_
   | refine LeO.bind ?_ (fun _ => ?_)
theorem computusref23_Find.mono : ∀ a0 a1 k, LeO (computusref23_Find.f k a0 a1) (computusref23_Find.f (k + 1) a0 a1) := by
 intro a0 a1 k
 obtain ⟨ih0, ih1, ih2⟩ := computusref23_Find.mono_l k
 unfold computusref23_Find.f
 repeat' first
   | (with_reducible exact ih0 _ _ _ _)
   | (with_reducible exact ih1 _ _)
   | (with_reducible exact ih2 _ _ _ _)
   | (with_reducible exact computusref23_same.mono _ _ _)
   | (with_reducible exact LeO.refl _)
   | (with_reducible exact LeO.none _)
   | (with_reducible refine LeO.ite ?_ ?_)
   | (with_reducible refine LeO.bind ?_ (fun _ => ?_))
   | exact ih0 _ _ _ _
   | exact ih1 _ _
   | exact ih2 _ _ _ _
   | exact computusref23_same.mono _ _ _
   | exact LeO.none _
   | refine LeO.ite ?_ ?_
   | refine LeO.bind ?_ (fun _ => ?_)
def computusref23_Ops.l0 : Nat → List ByteArray → List (S27) → Int → Option (List ByteArray)
 | 0, _, _, _ => none
 | k + 1, x1, x2, x3 => if x3 < (x2.length : Int) then (if (x1.length : Int) = 0 then (if 0 ≤ x3 then (if x1.length < 8796093022208 then (computusref23_Ops.l0 k (x1 ++ [(rd_T27 x2 x3).f0]) x2 (wrap64 (x3 + 1))) else (none)) else (none)) else (if 0 ≤ (wrap64 ((x1.length : Int) - 1)) then (if (wrap64 ((x1.length : Int) - 1)) < (x1.length : Int) then (if 0 ≤ x3 then (if (rdOf ByteArray.empty x1 (wrap64 ((x1.length : Int) - 1))).toList = ((rd_T27 x2 x3).f0).toList then (computusref23_Ops.l0 k x1 x2 (wrap64 (x3 + 1))) else (if x1.length < 8796093022208 then (computusref23_Ops.l0 k (x1 ++ [(rd_T27 x2 x3).f0]) x2 (wrap64 (x3 + 1))) else (none))) else (none)) else (none)) else (none))) else ((some (([(⟨#[61]⟩ : ByteArray), (⟨#[60, 62]⟩ : ByteArray), (⟨#[60]⟩ : ByteArray), (⟨#[60, 61]⟩ : ByteArray), (⟨#[62]⟩ : ByteArray), (⟨#[62, 61]⟩ : ByteArray)] : List ByteArray) : List ByteArray)).bind fun y264 => (if x1.length + y264.length < 8796093022208 then (some (x1 ++ y264)) else (none)))
def computusref23_Ops.f (k : Nat)  : Option (List ByteArray) := (computusref23_Table.f).bind fun t251 => (computusref23_Ops.l0 k ([] : List ByteArray) t251 0)
theorem computusref23_Ops.mono_l : ∀ k, (∀ y0 y1 y2, LeO (computusref23_Ops.l0 k y0 y1 y2) (computusref23_Ops.l0 (k + 1) y0 y1 y2))
 | 0 => fun _ _ _ r h => by simp [computusref23_Ops.l0] at h
 | k + 1 => by
  have ih0 := computusref23_Ops.mono_l k
  ·intro y0 y1 y2
   unfold computusref23_Ops.l0
   repeat' first
   | (with_reducible exact ih0 _ _ _)
   | (with_reducible exact LeO.refl _)
   | (with_reducible exact LeO.none _)
   | (with_reducible refine LeO.ite ?_ ?_)
   | (with_reducible refine LeO.bind ?_ (fun _ => ?_))
   | exact ih0 _ _ _
   | exact LeO.none _
   | refine LeO.ite ?_ ?_
   | refine LeO.bind ?_ (fun _ => ?_)
theorem computusref23_Ops.mono : ∀ k, LeO (computusref23_Ops.f k ) (computusref23_Ops.f (k + 1) ) := by
 intro  k
 have ih0 := computusref23_Ops.mono_l k
 unfold computusref23_Ops.f
 repeat' first
   | (with_reducible exact ih0 _ _ _)
   | (with_reducible exact LeO.refl _)
   | (with_reducible exact LeO.none _)
   | (with_reducible refine LeO.ite ?_ ?_)
   | (with_reducible refine LeO.bind ?_ (fun _ => ?_))
   | exact ih0 _ _ _
   | exact LeO.none _
   | refine LeO.ite ?_ ?_
   | refine LeO.bind ?_ (fun _ => ?_)
end Go.Proofs.YtfgogfdbjbnlbaaDoor.PExpr
end
section
namespace Go.Proofs.YtfgogfdbjbnlbaaDoor.PExpr
open Go.RowKit Go.Proofs.YtfgogfdbjbnlbaaDoorW.PrintWords Go.Proofs.YtfgogfdbjbnlbaaDoorW.PrintLast Go.Proofs.YtfgogfdbjbnlbaaDoorW.PrintMore
attribute [local go_sem] max2_int min2_int max_two min_two max_three min_three max_four min_four   -- for this text's walks alone
set_option linter.unusedVariables false
set_option linter.unusedSimpArgs false
mutual
def computuslaw23_KindSame.j0 : Nat → ByteArray → Int → Bool → Bool → Option (Bool)
 | 0, _, _, _, _ => none
 | k + 1, x0, x3, x4, x28 => if x28 = true then ((computuslaw23_known.f).bind fun t209 => (some t209)) else (if 1 + x0.size ≤ 9223372036854775807 then (if ((⟨#[40]⟩ : ByteArray) ++ x0).size + 1 ≤ 9223372036854775807 then ((computuslaw23_check.f (((⟨#[40]⟩ : ByteArray) ++ x0) ++ (⟨#[41]⟩ : ByteArray))).bind fun bt210 => (if bt210.2.2.2 = 31 then ((computuslaw23_known.f).bind fun t214 => (some t214)) else (if bt210.2.2.2 = 0 then (if x3 = bt210.1 then (computuslaw23_KindSame.j1 k x0 x3 x4 (x4 != bt210.2.1)) else (computuslaw23_KindSame.j1 k x0 x3 x4 true)) else (computuslaw23_KindSame.j1 k x0 x3 x4 true)))) else (none)) else (none))
def computuslaw23_KindSame.j1 : Nat → ByteArray → Int → Bool → Bool → Option (Bool)
 | 0, _, _, _, _ => none
 | k + 1, x0, x3, x4, x53 => if x53 = true then (some false) else (if 1 + x0.size ≤ 9223372036854775807 then (if ((⟨#[40]⟩ : ByteArray) ++ x0).size + 3 ≤ 9223372036854775807 then ((kind_Name.f x3).bind fun t215 => (if (((⟨#[40]⟩ : ByteArray) ++ x0) ++ (⟨#[41, 58, 58]⟩ : ByteArray)).size + t215.size ≤ 9223372036854775807 then ((computuslaw23_check.f ((((⟨#[40]⟩ : ByteArray) ++ x0) ++ (⟨#[41, 58, 58]⟩ : ByteArray)) ++ t215)).bind fun bt216 => (if x4 = true then (computuslaw23_KindSame.j2 k x3 bt216.1 bt216.2.2.2 true) else (computuslaw23_KindSame.j2 k x3 bt216.1 bt216.2.2.2 (x3 == 1)))) else (none))) else (none)) else (none))
def computuslaw23_KindSame.j2 : Nat → Int → Int → Int → Bool → Option (Bool)
 | 0, _, _, _, _ => none
 | k + 1, x3, x11, x14, x70 => if x70 = true then (if x14 = 32 then ((computuslaw23_known.f).bind fun t220 => (some t220)) else (some false)) else (if x14 = 0 then (if x11 = x3 then ((computuslaw23_known.f).bind fun t221 => (some t221)) else (some false)) else (some false))
end
def computuslaw23_KindSame.f (k : Nat) (a0 : ByteArray) : Option (Bool) := (computuslaw23_check.f a0).bind fun bt205 => (if bt205.2.2.2 = 0 then (computuslaw23_KindSame.j0 k a0 bt205.1 bt205.2.1 (decide ((a0.size : Int) > 2018))) else (computuslaw23_KindSame.j0 k a0 bt205.1 bt205.2.1 true))
theorem computuslaw23_KindSame.mono_l : ∀ k, (∀ y0 y1 y2 y3, LeO (computuslaw23_KindSame.j0 k y0 y1 y2 y3) (computuslaw23_KindSame.j0 (k + 1) y0 y1 y2 y3)) ∧ (∀ y0 y1 y2 y3, LeO (computuslaw23_KindSame.j1 k y0 y1 y2 y3) (computuslaw23_KindSame.j1 (k + 1) y0 y1 y2 y3)) ∧ (∀ y0 y1 y2 y3, LeO (computuslaw23_KindSame.j2 k y0 y1 y2 y3) (computuslaw23_KindSame.j2 (k + 1) y0 y1 y2 y3))
 | 0 => ⟨fun _ _ _ _ r h => by simp [computuslaw23_KindSame.j0] at h, fun _ _ _ _ r h => by simp [computuslaw23_KindSame.j1] at h, fun _ _ _ _ r h => by simp [computuslaw23_KindSame.j2] at h⟩
 | k + 1 => by
  obtain ⟨ih0, ih1, ih2⟩ := computuslaw23_KindSame.mono_l k
  refine ⟨?_, ?_, ?_⟩
  ·intro y0 y1 y2 y3
   unfold computuslaw23_KindSame.j0
   repeat' first
   | (with_reducible exact ih0 _ _ _ _)
   | (with_reducible exact ih1 _ _ _ _)
   | (with_reducible exact ih2 _ _ _ _)
   | (with_reducible exact LeO.refl _)
   | (with_reducible exact LeO.none _)
   | (with_reducible refine LeO.ite ?_ ?_)
   | (with_reducible refine LeO.bind ?_ (fun _ => ?_))
   | exact ih0 _ _ _ _
   | exact ih1 _ _ _ _
   | exact ih2 _ _ _ _
   | exact LeO.none _
   | refine LeO.ite ?_ ?_
   | refine LeO.bind ?_ (fun _ => ?_)
  ·intro y0 y1 y2 y3
   unfold computuslaw23_KindSame.j1
   repeat' first
   | (with_reducible exact ih0 _ _ _ _)
   | (with_reducible exact ih1 _ _ _ _)
   | (with_reducible exact ih2 _ _ _ _)
   | (with_reducible exact LeO.refl _)
   | (with_reducible exact LeO.none _)
   | (with_reducible refine LeO.ite ?_ ?_)
   | (with_reducible refine LeO.bind ?_ (fun _ => ?_))
   | exact ih0 _ _ _ _
   | exact ih1 _ _ _ _
   | exact ih2 _ _ _ _
   | exact LeO.none _
   | refine LeO.ite ?_ ?_
   | refine LeO.bind ?_ (fun _ => ?_)
  ·intro y0 y1 y2 y3
   unfold computuslaw23_KindSame.j2
   repeat' first
   | (with_reducible exact ih0 _ _ _ _)
   | (with_reducible exact ih1 _ _ _ _)
   | (with_reducible exact ih2 _ _ _ _)
   | (with_reducible exact LeO.refl _)
   | (with_reducible exact LeO.none _)
   | (with_reducible refine LeO.ite ?_ ?_)
   | (with_reducible refine LeO.bind ?_ (fun _ => ?_))
   | exact ih0 _ _ _ _
   | exact ih1 _ _ _ _
   | exact ih2 _ _ _ _
   | exact LeO.none _
   | refine LeO.ite ?_ ?_
   | refine LeO.bind ?_ (fun _ => ?_)
theorem computuslaw23_KindSame.mono : ∀ a0 k, LeO (computuslaw23_KindSame.f k a0) (computuslaw23_KindSame.f (k + 1) a0) := by
 intro a0 k
 obtain ⟨ih0, ih1, ih2⟩ := computuslaw23_KindSame.mono_l k
 unfold computuslaw23_KindSame.f
 repeat' first
   | (with_reducible exact ih0 _ _ _ _)
   | (with_reducible exact ih1 _ _ _ _)
   | (with_reducible exact ih2 _ _ _ _)
   | (with_reducible exact LeO.refl _)
   | (with_reducible exact LeO.none _)
   | (with_reducible refine LeO.ite ?_ ?_)
   | (with_reducible refine LeO.bind ?_ (fun _ => ?_))
   | exact ih0 _ _ _ _
   | exact ih1 _ _ _ _
   | exact ih2 _ _ _ _
   | exact LeO.none _
   | refine LeO.ite ?_ ?_
   | refine LeO.bind ?_ (fun _ => ?_)
set_option maxHeartbeats 8000000 in
set_option maxRecDepth 100000 in
theorem computuslaw23_KindSame.calls (k : Nat) (a0 : ByteArray) (r : Bool) (w : World) (hTW0 : Tab w) (h : computuslaw23_KindSame.f k a0 = some r) :
  Calls Tryd.prog 4 #[.string a0] w fun e w' => e = .returned (.bool r) ∧ Below w.heap.size w w' := by
 have HTW0 := Aside0.mk hTW0
 clear hTW0
 have HB := Aside0.mk (Below.refl w.heap.size w)
 have H : ((computuslaw23_check.f a0).bind fun bt205 => (if bt205.2.2.2 = 0 then (computuslaw23_KindSame.j0 k a0 bt205.1 bt205.2.1 (decide ((a0.size : Int) > 2018))) else (computuslaw23_KindSame.j0 k a0 bt205.1 bt205.2.1 true))) = some r := h
 clear h
 replace H := Option.bind_eq_some_iff.mp H
 obtain ⟨⟨t205, t206, t207, t208⟩, A20, H⟩ := H
 replace H : (if t208 = 0 then (computuslaw23_KindSame.j0 k a0 t205 t206 (decide ((a0.size : Int) > 2018))) else (computuslaw23_KindSame.j0 k a0 t205 t206 true)) = some r := H
 have A2 := Aside0.mk A20
 clear A20
 have HC3 := Aside0.mk H
 clear H
 go_enter Tryd.func4, Tryd.ntmps4
 go_upto_region 2 with (first | ((with_reducible refine gate_callee (f := 9) rfl ?_); refine goesL_ (some 17) rfl rfl Tryd.func9 (by kernel_rfl) rfl #[.string a0] rfl (by (try simp only [List.map_toArray, List.map_cons, List.map_nil]); first | done | rfl | (simp only [List.length_drop, List.length_take]; rfl)) ?_; (with_reducible refine (computuslaw23_check.calls a0 t205 t206 t207 t208 _ (HTW0.out.below (by repeat (first | (with_reducible first | exact HB.out | apply below_alloc | apply pw_below_drewN | apply below_drew1 ) | exact HB.out))) A2.out).mono ?_); rintro e w4 ⟨rfl, hb⟩; refine ⟨_, rfl, ?_⟩; have n0_ := Aside0.mk (below_step (by repeat (first | (with_reducible first | exact HB.out | apply below_alloc | apply pw_below_drewN | apply below_drew1) | exact HB.out)) hb); clear HB; have HB := n0_; clear n0_; (try clear hb); (try clear hb2); (try clear hk); (try clear hi)))
 (try simp only [Act.put, List.setIfInBounds_toArray, List.set_cons_zero, List.set_cons_succ])
 go_cut [28] (fun v28 wc => ∃ (kq : Nat) (x28_2 : Bool), v28 = .bool x28_2 ∧ Aside0 (computuslaw23_KindSame.j0 kq a0 t205 t206 x28_2 = some r) ∧ Aside0 (kq ≤ k) ∧ Aside0 (Below w.heap.size w wc))
 case first =>
  have H := HC3.out
  clear HC3
  by_cases c5 : t208 = 0
  ·rw [if_pos c5] at H
   have c5b0 : (t208 == 0) = true := beq_iff_eq.mpr c5
   have c5b1 : (t208 != 0) = false := bne_eq_false_iff_eq.mpr c5
   clear c5
   (first | rw [c5b0] | (simp only [i64_w, i32_w]; rw [c5b0]) | skip)
   have H' := Aside0.mk H
   clear H
   go_wp2
   go_meet
   case rel => exact ⟨_, (decide ((a0.size : Int) > 2018)), (by first | rfl | (simp; done) | (simp [*]; done)), H', ⟨by first | omega | exact Nat.le_refl _⟩, ⟨by repeat (first | (with_reducible first | exact HB.out | apply below_alloc | apply pw_below_drewN | apply below_drew1) | exact HB.out)⟩⟩
  ·rw [if_neg c5] at H
   have c5b0 : (t208 == 0) = false := beq_eq_false_iff_ne.mpr c5
   have c5b1 : (t208 != 0) = true := bne_iff_ne.mpr c5
   (first | rw [c5b0] | (simp only [i64_w, i32_w]; rw [c5b0]) | skip)
   have H' := Aside0.mk H
   clear H
   go_wp2
   go_meet
   case rel => exact ⟨_, (true), (by first | rfl | (simp; done) | (simp [*]; done)), H', ⟨by first | omega | exact Nat.le_refl _⟩, ⟨by repeat (first | (with_reducible first | exact HB.out | apply below_alloc | apply pw_below_drewN | apply below_drew1) | exact HB.out)⟩⟩
 case rest =>
  clear HC3
  try clear p2
  try clear c4
  try clear c5
  try clear c5b0
  try clear c5b1
  obtain ⟨kq, x28_2, rfl, HA, HJ2, HB⟩ := hcut
  cases kq with
  | zero => exact absurd HA.out (by simp [computuslaw23_KindSame.j0])
  | succ kj2 =>
   have H := HA.out
   clear HA
   simp only [computuslaw23_KindSame.j0] at H
   by_cases c6 : x28_2 = true
   ·subst c6
    have H1 : ((computuslaw23_known.f).bind fun t209 => (some t209)) = some r := by rw [if_pos rfl] at H; exact H
    clear H
    have H := H1
    clear H1
    replace H := Option.bind_eq_some_iff.mp H
    obtain ⟨t209, A70, H⟩ := H
    replace H : (some t209) = some r := H
    have A7 := Aside0.mk A70
    clear A70
    obtain rfl := Option.some.inj H
    go_wp2_with (first | ((with_reducible refine gate_callee (f := 7) rfl ?_); refine goesL_ (some 29) rfl rfl Tryd.func7 (by kernel_rfl) rfl #[] rfl (by (try simp only [List.map_toArray, List.map_cons, List.map_nil]); first | done | rfl | (simp only [List.length_drop, List.length_take]; rfl)) ?_; (with_reducible refine (computuslaw23_known.calls  t209 _ (HTW0.out.below (by repeat (first | (with_reducible first | exact HB.out | apply below_alloc | apply pw_below_drewN | apply below_drew1 ) | exact HB.out))) A7.out).mono ?_); rintro e w8 ⟨rfl, hb⟩; refine ⟨_, rfl, ?_⟩; have n0_ := Aside0.mk (below_step (by repeat (first | (with_reducible first | exact HB.out | apply below_alloc | apply pw_below_drewN | apply below_drew1) | exact HB.out)) hb); clear HB; have HB := n0_; clear n0_; (try clear hb); (try clear hb2); (try clear hk); (try clear hi)))
    go_ret
    exact ⟨by first | rfl | (simp [errW_none, errW_some] <;> rfl) | (simp [*, errW_none, errW_some] <;> rfl), by repeat (first | (with_reducible first | exact HB.out | apply below_alloc | apply pw_below_drewN | apply below_drew1) | exact HB.out)⟩
   ·replace c6 := Bool.eq_false_iff.mpr c6
    subst c6
    have H1 : (if 1 + a0.size ≤ 9223372036854775807 then (if ((⟨#[40]⟩ : ByteArray) ++ a0).size + 1 ≤ 9223372036854775807 then ((computuslaw23_check.f (((⟨#[40]⟩ : ByteArray) ++ a0) ++ (⟨#[41]⟩ : ByteArray))).bind fun bt210 => (if bt210.2.2.2 = 31 then ((computuslaw23_known.f).bind fun t214 => (some t214)) else (if bt210.2.2.2 = 0 then (if t205 = bt210.1 then (computuslaw23_KindSame.j1 kj2 a0 t205 t206 (t206 != bt210.2.1)) else (computuslaw23_KindSame.j1 kj2 a0 t205 t206 true)) else (computuslaw23_KindSame.j1 kj2 a0 t205 t206 true)))) else (none)) else (none)) = some r := by rw [if_neg (show ¬ (false = true) by decide)] at H; exact H
    clear H
    have H := H1
    clear H1
    by_cases c9 : 1 + a0.size ≤ 9223372036854775807
    ·rw [if_pos c9] at H
     have c9b0 := eq_true c9
     have c9b1 : decide (1 + a0.size ≤ 9223372036854775807) = true := decide_eq_true c9
     try have c9b2 : (9223372036854775807 < 1 + a0.size) = False := eq_false (Nat.not_lt.2 c9)
     by_cases c10 : ((⟨#[40]⟩ : ByteArray) ++ a0).size + 1 ≤ 9223372036854775807
     ·rw [if_pos c10] at H
      have c10h : ∀ W, (Op.stringOp .add ((⟨#[40]⟩ : ByteArray) ++ a0) (⟨#[41]⟩ : ByteArray)).run Tryd.prog W = .ok (.string (((⟨#[40]⟩ : ByteArray) ++ a0) ++ (⟨#[41]⟩ : ByteArray))) W := fun W => run_string_add_sum W _ _ c10
      replace H := Option.bind_eq_some_iff.mp H
      obtain ⟨⟨t210, t211, t212, t213⟩, A110, H⟩ := H
      replace H : (if t213 = 31 then ((computuslaw23_known.f).bind fun t214 => (some t214)) else (if t213 = 0 then (if t205 = t210 then (computuslaw23_KindSame.j1 kj2 a0 t205 t206 (t206 != t211)) else (computuslaw23_KindSame.j1 kj2 a0 t205 t206 true)) else (computuslaw23_KindSame.j1 kj2 a0 t205 t206 true))) = some r := H
      have A11 := Aside0.mk A110
      clear A110
      by_cases c12 : t213 = 31
      ·rw [if_pos c12] at H
       have c12b0 : (t213 == 31) = true := beq_iff_eq.mpr c12
       have c12b1 : (t213 != 31) = false := bne_eq_false_iff_eq.mpr c12
       clear c12
       replace H := Option.bind_eq_some_iff.mp H
       obtain ⟨t214, A130, H⟩ := H
       replace H : (some t214) = some r := H
       have A13 := Aside0.mk A130
       clear A130
       obtain rfl := Option.some.inj H
       go_wp2_with (first | ((with_reducible refine gate_callee (f := 9) rfl ?_); refine goesL_ (some 34) rfl rfl Tryd.func9 (by kernel_rfl) rfl #[.string (((⟨#[40]⟩ : ByteArray) ++ a0) ++ (⟨#[41]⟩ : ByteArray))] rfl (by (try simp only [List.map_toArray, List.map_cons, List.map_nil]); first | done | rfl | (simp only [List.length_drop, List.length_take]; rfl)) ?_; (with_reducible refine (computuslaw23_check.calls (((⟨#[40]⟩ : ByteArray) ++ a0) ++ (⟨#[41]⟩ : ByteArray)) t210 t211 t212 t213 _ (HTW0.out.below (by repeat (first | (with_reducible first | exact HB.out | apply below_alloc | apply pw_below_drewN | apply below_drew1 ) | exact HB.out))) A11.out).mono ?_); rintro e w14 ⟨rfl, hb⟩; refine ⟨_, rfl, ?_⟩; have n0_ := Aside0.mk (below_step (by repeat (first | (with_reducible first | exact HB.out | apply below_alloc | apply pw_below_drewN | apply below_drew1) | exact HB.out)) hb); clear HB; have HB := n0_; clear n0_; (try clear hb); (try clear hb2); (try clear hk); (try clear hi)) | ((with_reducible refine gate_callee (f := 7) rfl ?_); refine goesL_ (some 41) rfl rfl Tryd.func7 (by kernel_rfl) rfl #[] rfl (by (try simp only [List.map_toArray, List.map_cons, List.map_nil]); first | done | rfl | (simp only [List.length_drop, List.length_take]; rfl)) ?_; (with_reducible refine (computuslaw23_known.calls  t214 _ (HTW0.out.below (by repeat (first | (with_reducible first | exact HB.out | apply below_alloc | apply pw_below_drewN | apply below_drew1 ) | exact HB.out))) A13.out).mono ?_); rintro e w15 ⟨rfl, hb⟩; refine ⟨_, rfl, ?_⟩; have n0_ := Aside0.mk (below_step (by repeat (first | (with_reducible first | exact HB.out | apply below_alloc | apply pw_below_drewN | apply below_drew1) | exact HB.out)) hb); clear HB; have HB := n0_; clear n0_; (try clear hb); (try clear hb2); (try clear hk); (try clear hi)))
       go_ret
       exact ⟨by first | rfl | (simp [errW_none, errW_some] <;> rfl) | (simp [*, errW_none, errW_some] <;> rfl), by repeat (first | (with_reducible first | exact HB.out | apply below_alloc | apply pw_below_drewN | apply below_drew1) | exact HB.out)⟩
      ·rw [if_neg c12] at H
       have c12b0 : (t213 == 31) = false := beq_eq_false_iff_ne.mpr c12
       have c12b1 : (t213 != 31) = true := bne_iff_ne.mpr c12
       have HC16 := Aside0.mk H
       clear H
       go_upto_region 7 with (first | ((with_reducible refine gate_callee (f := 9) rfl ?_); refine goesL_ (some 34) rfl rfl Tryd.func9 (by kernel_rfl) rfl #[.string (((⟨#[40]⟩ : ByteArray) ++ a0) ++ (⟨#[41]⟩ : ByteArray))] rfl (by (try simp only [List.map_toArray, List.map_cons, List.map_nil]); first | done | rfl | (simp only [List.length_drop, List.length_take]; rfl)) ?_; (with_reducible refine (computuslaw23_check.calls (((⟨#[40]⟩ : ByteArray) ++ a0) ++ (⟨#[41]⟩ : ByteArray)) t210 t211 t212 t213 _ (HTW0.out.below (by repeat (first | (with_reducible first | exact HB.out | apply below_alloc | apply pw_below_drewN | apply below_drew1 ) | exact HB.out))) A11.out).mono ?_); rintro e w17 ⟨rfl, hb⟩; refine ⟨_, rfl, ?_⟩; have n0_ := Aside0.mk (below_step (by repeat (first | (with_reducible first | exact HB.out | apply below_alloc | apply pw_below_drewN | apply below_drew1) | exact HB.out)) hb); clear HB; have HB := n0_; clear n0_; (try clear hb); (try clear hb2); (try clear hk); (try clear hi)))
       (try simp only [Act.put, List.setIfInBounds_toArray, List.set_cons_zero, List.set_cons_succ])
       go_cut [53] (fun v53 wc => ∃ (kq : Nat) (x53_15 : Bool), v53 = .bool x53_15 ∧ Aside0 (computuslaw23_KindSame.j1 kq a0 t205 t206 x53_15 = some r) ∧ Aside0 (kq ≤ kj2) ∧ Aside0 (Below w.heap.size w wc))
       case first =>
        have H := HC16.out
        clear HC16
        by_cases c18 : t213 = 0
        ·rw [if_pos c18] at H
         have c18b0 : (t213 == 0) = true := beq_iff_eq.mpr c18
         have c18b1 : (t213 != 0) = false := bne_eq_false_iff_eq.mpr c18
         clear c18
         (first | rw [c18b0] | (simp only [i64_w, i32_w]; rw [c18b0]) | skip)
         by_cases c19 : t205 = t210
         ·rw [if_pos c19] at H
          have c19b0 : (t205 == t210) = true := beq_iff_eq.mpr c19
          have c19b1 : (t205 != t210) = false := bne_eq_false_iff_eq.mpr c19
          clear c19
          have H' := Aside0.mk H
          clear H
          go_wp2
          go_meet
          case rel => exact ⟨_, ((t206 != t211)), (by first | rfl | (simp; done) | (simp [*]; done)), H', ⟨by have := HJ2.out; first | omega | exact Nat.le_refl _⟩, ⟨by repeat (first | (with_reducible first | exact HB.out | apply below_alloc | apply pw_below_drewN | apply below_drew1) | exact HB.out)⟩⟩
         ·rw [if_neg c19] at H
          have c19b0 : (t205 == t210) = false := beq_eq_false_iff_ne.mpr c19
          have c19b1 : (t205 != t210) = true := bne_iff_ne.mpr c19
          have H' := Aside0.mk H
          clear H
          go_wp2
          go_meet
          case rel => exact ⟨_, (true), (by first | rfl | (simp; done) | (simp [*]; done)), H', ⟨by have := HJ2.out; first | omega | exact Nat.le_refl _⟩, ⟨by repeat (first | (with_reducible first | exact HB.out | apply below_alloc | apply pw_below_drewN | apply below_drew1) | exact HB.out)⟩⟩
        ·rw [if_neg c18] at H
         have c18b0 : (t213 == 0) = false := beq_eq_false_iff_ne.mpr c18
         have c18b1 : (t213 != 0) = true := bne_iff_ne.mpr c18
         (first | rw [c18b0] | (simp only [i64_w, i32_w]; rw [c18b0]) | skip)
         have H' := Aside0.mk H
         clear H
         go_wp2
         go_meet
         case rel => exact ⟨_, (true), (by first | rfl | (simp; done) | (simp [*]; done)), H', ⟨by have := HJ2.out; first | omega | exact Nat.le_refl _⟩, ⟨by repeat (first | (with_reducible first | exact HB.out | apply below_alloc | apply pw_below_drewN | apply below_drew1) | exact HB.out)⟩⟩
       case rest =>
        clear HC16
        try clear c1
        try clear p2
        try clear c4
        try clear c5
        try clear c5b0
        try clear c5b1
        try clear c6
        try clear c7
        try clear c9
        try clear c9b0
        try clear c9b1
        try clear c9b2
        try clear c10
        try clear c10b0
        try clear c10b1
        try clear c10b2
        try clear c12
        try clear c12b0
        try clear c12b1
        try clear c18
        try clear c18b0
        try clear c18b1
        try clear c19
        try clear c19b0
        try clear c19b1
        try clear p2
        obtain ⟨kq, x53_15, rfl, HA, HJ15, HB⟩ := hcut
        cases kq with
        | zero => exact absurd HA.out (by simp [computuslaw23_KindSame.j1])
        | succ kj15 =>
         have H := HA.out
         clear HA
         simp only [computuslaw23_KindSame.j1] at H
         by_cases c20 : x53_15 = true
         ·subst c20
          have H1 : (some false) = some r := by rw [if_pos rfl] at H; exact H
          clear H
          have H := H1
          clear H1
          obtain rfl := Option.some.inj H
          go_wp2
          go_ret
          exact ⟨by first | rfl | (simp [errW_none, errW_some] <;> rfl) | (simp [*, errW_none, errW_some] <;> rfl), by repeat (first | (with_reducible first | exact HB.out | apply below_alloc | apply pw_below_drewN | apply below_drew1) | exact HB.out)⟩
         ·replace c20 := Bool.eq_false_iff.mpr c20
          subst c20
          have H1 : (if 1 + a0.size ≤ 9223372036854775807 then (if ((⟨#[40]⟩ : ByteArray) ++ a0).size + 3 ≤ 9223372036854775807 then ((kind_Name.f t205).bind fun t215 => (if (((⟨#[40]⟩ : ByteArray) ++ a0) ++ (⟨#[41, 58, 58]⟩ : ByteArray)).size + t215.size ≤ 9223372036854775807 then ((computuslaw23_check.f ((((⟨#[40]⟩ : ByteArray) ++ a0) ++ (⟨#[41, 58, 58]⟩ : ByteArray)) ++ t215)).bind fun bt216 => (if t206 = true then (computuslaw23_KindSame.j2 kj15 t205 bt216.1 bt216.2.2.2 true) else (computuslaw23_KindSame.j2 kj15 t205 bt216.1 bt216.2.2.2 (t205 == 1)))) else (none))) else (none)) else (none)) = some r := by rw [if_neg (show ¬ (false = true) by decide)] at H; exact H
          clear H
          have H := H1
          clear H1
          by_cases c21 : 1 + a0.size ≤ 9223372036854775807
          ·rw [if_pos c21] at H
           have c21b0 := eq_true c21
           have c21b1 : decide (1 + a0.size ≤ 9223372036854775807) = true := decide_eq_true c21
           try have c21b2 : (9223372036854775807 < 1 + a0.size) = False := eq_false (Nat.not_lt.2 c21)
           by_cases c22 : ((⟨#[40]⟩ : ByteArray) ++ a0).size + 3 ≤ 9223372036854775807
           ·rw [if_pos c22] at H
            have c22h : ∀ W, (Op.stringOp .add ((⟨#[40]⟩ : ByteArray) ++ a0) (⟨#[41, 58, 58]⟩ : ByteArray)).run Tryd.prog W = .ok (.string (((⟨#[40]⟩ : ByteArray) ++ a0) ++ (⟨#[41, 58, 58]⟩ : ByteArray))) W := fun W => run_string_add_sum W _ _ c22
            replace H := Option.bind_eq_some_iff.mp H
            obtain ⟨t215, A230, H⟩ := H
            replace H : (if (((⟨#[40]⟩ : ByteArray) ++ a0) ++ (⟨#[41, 58, 58]⟩ : ByteArray)).size + t215.size ≤ 9223372036854775807 then ((computuslaw23_check.f ((((⟨#[40]⟩ : ByteArray) ++ a0) ++ (⟨#[41, 58, 58]⟩ : ByteArray)) ++ t215)).bind fun bt216 => (if t206 = true then (computuslaw23_KindSame.j2 kj15 t205 bt216.1 bt216.2.2.2 true) else (computuslaw23_KindSame.j2 kj15 t205 bt216.1 bt216.2.2.2 (t205 == 1)))) else (none)) = some r := H
            have A23 := Aside0.mk A230
            clear A230
            by_cases c24 : (((⟨#[40]⟩ : ByteArray) ++ a0) ++ (⟨#[41, 58, 58]⟩ : ByteArray)).size + t215.size ≤ 9223372036854775807
            ·rw [if_pos c24] at H
             have c24h : ∀ W, (Op.stringOp .add (((⟨#[40]⟩ : ByteArray) ++ a0) ++ (⟨#[41, 58, 58]⟩ : ByteArray)) t215).run Tryd.prog W = .ok (.string ((((⟨#[40]⟩ : ByteArray) ++ a0) ++ (⟨#[41, 58, 58]⟩ : ByteArray)) ++ t215)) W := fun W => run_string_add_sum W _ _ c24
             replace H := Option.bind_eq_some_iff.mp H
             obtain ⟨⟨t216, t217, t218, t219⟩, A250, H⟩ := H
             replace H : (if t206 = true then (computuslaw23_KindSame.j2 kj15 t205 t216 t219 true) else (computuslaw23_KindSame.j2 kj15 t205 t216 t219 (t205 == 1))) = some r := H
             have A25 := Aside0.mk A250
             clear A250
             have HC26 := Aside0.mk H
             clear H
             go_upto_region 10 with (first | ((with_reducible refine gate_callee (f := 10) rfl ?_); refine goesL_ (some 59) rfl rfl Tryd.func10 (by kernel_rfl) rfl #[.int .i64 t205] rfl (by (try simp only [List.map_toArray, List.map_cons, List.map_nil]); first | done | rfl | (simp only [List.length_drop, List.length_take]; rfl)) ?_; (with_reducible refine (kind_Name.calls t205 t215 _ A23.out).mono ?_); rintro e w27 ⟨rfl, hb⟩; refine ⟨_, rfl, ?_⟩; have n0_ := Aside0.mk (below_step (by repeat (first | (with_reducible first | exact HB.out | apply below_alloc | apply pw_below_drewN | apply below_drew1) | exact HB.out)) hb); clear HB; have HB := n0_; clear n0_; (try clear hb); (try clear hb2); (try clear hk); (try clear hi)) | ((with_reducible refine gate_callee (f := 9) rfl ?_); refine goesL_ (some 61) rfl rfl Tryd.func9 (by kernel_rfl) rfl #[.string ((((⟨#[40]⟩ : ByteArray) ++ a0) ++ (⟨#[41, 58, 58]⟩ : ByteArray)) ++ t215)] rfl (by (try simp only [List.map_toArray, List.map_cons, List.map_nil]); first | done | rfl | (simp only [List.length_drop, List.length_take]; rfl)) ?_; (with_reducible refine (computuslaw23_check.calls ((((⟨#[40]⟩ : ByteArray) ++ a0) ++ (⟨#[41, 58, 58]⟩ : ByteArray)) ++ t215) t216 t217 t218 t219 _ (HTW0.out.below (by repeat (first | (with_reducible first | exact HB.out | apply below_alloc | apply pw_below_drewN | apply below_drew1 ) | exact HB.out))) A25.out).mono ?_); rintro e w28 ⟨rfl, hb⟩; refine ⟨_, rfl, ?_⟩; have n0_ := Aside0.mk (below_step (by repeat (first | (with_reducible first | exact HB.out | apply below_alloc | apply pw_below_drewN | apply below_drew1) | exact HB.out)) hb); clear HB; have HB := n0_; clear n0_; (try clear hb); (try clear hb2); (try clear hk); (try clear hi)))
             (try simp only [Act.put, List.setIfInBounds_toArray, List.set_cons_zero, List.set_cons_succ])
             go_cut [70] (fun v70 wc => ∃ (kq : Nat) (x70_25 : Bool), v70 = .bool x70_25 ∧ Aside0 (computuslaw23_KindSame.j2 kq t205 t216 t219 x70_25 = some r) ∧ Aside0 (kq ≤ kj15) ∧ Aside0 (Below w.heap.size w wc))
             case first =>
              have H := HC26.out
              clear HC26
              by_cases c29 : t206 = true
              ·subst c29
               have H1 : (computuslaw23_KindSame.j2 kj15 t205 t216 t219 true) = some r := by rw [if_pos rfl] at H; exact H
               clear H
               have H := H1
               clear H1
               have H' := Aside0.mk H
               clear H
               go_wp2
               go_meet
               case rel => exact ⟨_, (true), (by first | rfl | (simp; done) | (simp [*]; done)), H', ⟨by have := HJ2.out; have := HJ15.out; first | omega | exact Nat.le_refl _⟩, ⟨by repeat (first | (with_reducible first | exact HB.out | apply below_alloc | apply pw_below_drewN | apply below_drew1) | exact HB.out)⟩⟩
              ·replace c29 := Bool.eq_false_iff.mpr c29
               subst c29
               have H1 : (computuslaw23_KindSame.j2 kj15 t205 t216 t219 (t205 == 1)) = some r := by rw [if_neg (show ¬ (false = true) by decide)] at H; exact H
               clear H
               have H := H1
               clear H1
               have H' := Aside0.mk H
               clear H
               go_wp2
               go_meet
               case rel => exact ⟨_, ((t205 == 1)), (by first | rfl | (simp; done) | (simp [*]; done)), H', ⟨by have := HJ2.out; have := HJ15.out; first | omega | exact Nat.le_refl _⟩, ⟨by repeat (first | (with_reducible first | exact HB.out | apply below_alloc | apply pw_below_drewN | apply below_drew1) | exact HB.out)⟩⟩
             case rest =>
              clear HC26
              try clear c1
              try clear c2
              try clear p2
              try clear c4
              try clear c5
              try clear c5b0
              try clear c5b1
              try clear c6
              try clear c7
              try clear c9
              try clear c9b0
              try clear c9b1
              try clear c9b2
              try clear c10
              try clear c10b0
              try clear c10b1
              try clear c10b2
              try clear c12
              try clear c12b0
              try clear c12b1
              try clear c18
              try clear c18b0
              try clear c18b1
              try clear c19
              try clear c19b0
              try clear c19b1
              try clear c20
              try clear c21
              try clear c21b0
              try clear c21b1
              try clear c21b2
              try clear c22
              try clear c22b0
              try clear c22b1
              try clear c22b2
              try clear c24
              try clear c24b0
              try clear c24b1
              try clear c24b2
              try clear c29
              try clear p2
              obtain ⟨kq, x70_25, rfl, HA, HJ25, HB⟩ := hcut
              cases kq with
              | zero => exact absurd HA.out (by simp [computuslaw23_KindSame.j2])
              | succ kj25 =>
               have H := HA.out
               clear HA
               simp only [computuslaw23_KindSame.j2] at H
               by_cases c30 : x70_25 = true
               ·subst c30
                have H1 : (if t219 = 32 then ((computuslaw23_known.f).bind fun t220 => (some t220)) else (some false)) = some r := by rw [if_pos rfl] at H; exact H
                clear H
                have H := H1
                clear H1
                by_cases c31 : t219 = 32
                ·rw [if_pos c31] at H
                 have c31b0 : (t219 == 32) = true := beq_iff_eq.mpr c31
                 have c31b1 : (t219 != 32) = false := bne_eq_false_iff_eq.mpr c31
                 clear c31
                 replace H := Option.bind_eq_some_iff.mp H
                 obtain ⟨t220, A320, H⟩ := H
                 replace H : (some t220) = some r := H
                 have A32 := Aside0.mk A320
                 clear A320
                 obtain rfl := Option.some.inj H
                 go_wp2_with (first | (go_at_call 7; (with_reducible refine (computuslaw23_known.calls  t220 _ (HTW0.out.below (by repeat (first | (with_reducible first | exact HB.out | apply below_alloc | apply pw_below_drewN | apply below_drew1 ) | exact HB.out))) A32.out).mono ?_); rintro e w33 ⟨rfl, hb⟩; have n0_ := Aside0.mk (below_step (by repeat (first | (with_reducible first | exact HB.out | apply below_alloc | apply pw_below_drewN | apply below_drew1) | exact HB.out)) hb); clear HB; have HB := n0_; clear n0_; (try clear hb); (try clear hb2); (try clear hk); (try clear hi)))
                 go_ret
                 exact ⟨by first | rfl | (simp [errW_none, errW_some] <;> rfl) | (simp [*, errW_none, errW_some] <;> rfl), by repeat (first | (with_reducible first | exact HB.out | apply below_alloc | apply pw_below_drewN | apply below_drew1) | exact HB.out)⟩
                ·rw [if_neg c31] at H
                 have c31b0 : (t219 == 32) = false := beq_eq_false_iff_ne.mpr c31
                 have c31b1 : (t219 != 32) = true := bne_iff_ne.mpr c31
                 obtain rfl := Option.some.inj H
                 go_wp2
                 go_ret
                 exact ⟨by first | rfl | (simp [errW_none, errW_some] <;> rfl) | (simp [*, errW_none, errW_some] <;> rfl), by repeat (first | (with_reducible first | exact HB.out | apply below_alloc | apply pw_below_drewN | apply below_drew1) | exact HB.out)⟩
               ·replace c30 := Bool.eq_false_iff.mpr c30
                subst c30
                have H1 : (if t219 = 0 then (if t216 = t205 then ((computuslaw23_known.f).bind fun t221 => (some t221)) else (some false)) else (some false)) = some r := by rw [if_neg (show ¬ (false = true) by decide)] at H; exact H
                clear H
                have H := H1
                clear H1
                by_cases c34 : t219 = 0
                ·rw [if_pos c34] at H
                 have c34b0 : (t219 == 0) = true := beq_iff_eq.mpr c34
                 have c34b1 : (t219 != 0) = false := bne_eq_false_iff_eq.mpr c34
                 clear c34
                 by_cases c35 : t216 = t205
                 ·rw [if_pos c35] at H
                  have c35b0 : (t216 == t205) = true := beq_iff_eq.mpr c35
                  have c35b1 : (t216 != t205) = false := bne_eq_false_iff_eq.mpr c35
                  clear c35
                  replace H := Option.bind_eq_some_iff.mp H
                  obtain ⟨t221, A360, H⟩ := H
                  replace H : (some t221) = some r := H
                  have A36 := Aside0.mk A360
                  clear A360
                  obtain rfl := Option.some.inj H
                  go_wp2_with (first | (go_at_call 7; (with_reducible refine (computuslaw23_known.calls  t221 _ (HTW0.out.below (by repeat (first | (with_reducible first | exact HB.out | apply below_alloc | apply pw_below_drewN | apply below_drew1 ) | exact HB.out))) A36.out).mono ?_); rintro e w37 ⟨rfl, hb⟩; have n0_ := Aside0.mk (below_step (by repeat (first | (with_reducible first | exact HB.out | apply below_alloc | apply pw_below_drewN | apply below_drew1) | exact HB.out)) hb); clear HB; have HB := n0_; clear n0_; (try clear hb); (try clear hb2); (try clear hk); (try clear hi)))
                  go_ret
                  exact ⟨by first | rfl | (simp [errW_none, errW_some] <;> rfl) | (simp [*, errW_none, errW_some] <;> rfl), by repeat (first | (with_reducible first | exact HB.out | apply below_alloc | apply pw_below_drewN | apply below_drew1) | exact HB.out)⟩
                 ·rw [if_neg c35] at H
                  have c35b0 : (t216 == t205) = false := beq_eq_false_iff_ne.mpr c35
                  have c35b1 : (t216 != t205) = true := bne_iff_ne.mpr c35
                  obtain rfl := Option.some.inj H
                  go_wp2
                  go_ret
                  exact ⟨by first | rfl | (simp [errW_none, errW_some] <;> rfl) | (simp [*, errW_none, errW_some] <;> rfl), by repeat (first | (with_reducible first | exact HB.out | apply below_alloc | apply pw_below_drewN | apply below_drew1) | exact HB.out)⟩
                ·rw [if_neg c34] at H
                 have c34b0 : (t219 == 0) = false := beq_eq_false_iff_ne.mpr c34
                 have c34b1 : (t219 != 0) = true := bne_iff_ne.mpr c34
                 obtain rfl := Option.some.inj H
                 go_wp2
                 go_ret
                 exact ⟨by first | rfl | (simp [errW_none, errW_some] <;> rfl) | (simp [*, errW_none, errW_some] <;> rfl), by repeat (first | (with_reducible first | exact HB.out | apply below_alloc | apply pw_below_drewN | apply below_drew1) | exact HB.out)⟩
            ·rw [if_neg c24] at H
             exact absurd H (by simp)
           ·rw [if_neg c22] at H
            exact absurd H (by simp)
          ·rw [if_neg c21] at H
           exact absurd H (by simp)
     ·rw [if_neg c10] at H
      exact absurd H (by simp)
    ·rw [if_neg c9] at H
     exact absurd H (by simp)
def computuslaw23_KindSame.Pure : Prop := ∀ (a0 : ByteArray), a0.size ≤ 140737488351232 → ∃ k, computuslaw23_KindSame.f k a0 = some true
theorem computuslaw23_KindSame.walk (P : computuslaw23_KindSame.Pure) (a0 : ByteArray) (w : World) (hTW0 : Tab w) (w0 : a0.size ≤ 140737488351232) :
  Calls Tryd.prog 4 #[.string a0] w fun e w' => e = .returned (.bool true) ∧ Below w.heap.size w w' := by
 obtain ⟨k, h⟩ := P a0 w0
 refine (computuslaw23_KindSame.calls k a0 true w hTW0 h).mono ?_
 rintro e w' ⟨rfl, hd⟩
 exact ⟨rfl, hd⟩
end Go.Proofs.YtfgogfdbjbnlbaaDoor.PExpr
end
section
namespace Go.Proofs.YtfgogfdbjbnlbaaDoor.PExpr
open Go.RowKit Go.Proofs.YtfgogfdbjbnlbaaDoorW.PrintWords Go.Proofs.YtfgogfdbjbnlbaaDoorW.PrintLast Go.Proofs.YtfgogfdbjbnlbaaDoorW.PrintMore
set_option linter.unusedVariables false
set_option linter.unusedSimpArgs false
inductive Tks (len : Int) : List Tk → Prop
  | fin (t : Tk) (h : t.f0 = 4) (h0 : 0 ≤ t.f2) (h1 : t.f2 ≤ len) : Tks len [t]
  | more (t : Tk) (r : List Tk) (h : t.f0 ≠ 4) (h0 : 0 ≤ t.f2) (h1 : t.f2 < len) (hr : Tks len r) : Tks len (t :: r)
inductive NdIn (len : Int) : Nd → Prop
  | mk (n : Nd) (h0 : 0 ≤ n.f3) (h1 : n.f3 < len) (hl : n.f2.length ≤ 6000) (hk : ∀ m, m ∈ n.f2 → NdIn len m) : NdIn len n
def Good (len : Int) (m : Nat) : Option Res → Prop
  | none => False
  | some (.ok n l) => NdIn len n ∧ Tks len l ∧ l.length ≤ m
  | some (.bad why pos) => 0 ≤ pos ∧ pos ≤ len ∧ (why = 30 ∨ why = 31)
theorem Tks.ne {len : Int} {l : List Tk} (h : Tks len l) : l ≠ [] := by cases h <;> simp
theorem Tks.place {len : Int} {t : Tk} {r : List Tk} (h : Tks len (t :: r)) : 0 ≤ t.f2 ∧ t.f2 ≤ len := by
  cases h with
  | fin _ h h0 h1 => exact ⟨h0, h1⟩
  | more _ _ h h0 h1 hr => exact ⟨h0, by omega⟩
theorem Tks.tail {len : Int} {t : Tk} {r : List Tk} (h : Tks len (t :: r)) (h4 : t.f0 ≠ 4) : 0 ≤ t.f2 ∧ t.f2 < len ∧ Tks len r := by
  cases h with
  | fin _ h h0 h1 => exact absurd h h4
  | more _ _ h h0 h1 hr => exact ⟨h0, h1, hr⟩
theorem isIt_kind {ss : List ByteArray} {t : Tk} (h : isIt ss t = true) : t.f0 ≠ 4 := by
  unfold isIt at h
  simp only [Bool.and_eq_true, Bool.or_eq_true, beq_iff_eq] at h
  omega
theorem Good.mono {len : Int} {m m' : Nat} {r : Option Res} (h : Good len m r) (hm : m ≤ m') : Good len m' r := by
  cases r with
  | none => exact h
  | some r =>
    cases r with
    | ok n l => exact ⟨h.1, h.2.1, Nat.le_trans h.2.2 hm⟩
    | bad why pos => exact h
theorem Good.next {len : Int} {m m' : Nat} {r : Option Res} {f : Nd → List Tk → Option Res} (h : Good len m r) (hf : ∀ n l, NdIn len n → Tks len l → l.length ≤ m → Good len m' (f n l)) : Good len m' (r.bind fun n => n.then f) := by
  cases r with
  | none => exact h.elim
  | some r =>
    cases r with
    | ok n l => exact hf n l h.1 h.2.1 h.2.2
    | bad why pos => exact h
theorem Tks.empty {len : Int} {l : List Tk} (h : Tks len l) : ¬ l.isEmpty = true := by
  have := h.ne
  cases l with
  | nil => exact absurd rfl this
  | cons t r => simp
theorem in2 {len : Int} {k : Int} {s : ByteArray} {n m : Nd} {p : Int} (hn : NdIn len n) (hm : NdIn len m) (h0 : 0 ≤ p) (h1 : p < len) : NdIn len ⟨k, s, [n, m], p⟩ :=
  .mk _ h0 h1 (show 2 ≤ 6000 by decide) fun x hx => by
    have hx' : x ∈ [n, m] := hx
    simp only [List.mem_cons, List.not_mem_nil, or_false] at hx'
    rcases hx' with rfl | rfl
    · exact hn
    · exact hm
theorem in1 {len : Int} {k : Int} {s : ByteArray} {n : Nd} {p : Int} (hn : NdIn len n) (h0 : 0 ≤ p) (h1 : p < len) : NdIn len ⟨k, s, [n], p⟩ :=
  .mk _ h0 h1 (show 1 ≤ 6000 by decide) fun x hx => by
    have hx' : x ∈ [n] := hx
    simp only [List.mem_cons, List.not_mem_nil, or_false] at hx'
    rw [hx']
    exact hn
theorem in0 {len : Int} {k : Int} {s : ByteArray} {p : Int} (h0 : 0 ≤ p) (h1 : p < len) : NdIn len ⟨k, s, [], p⟩ :=
  .mk _ h0 h1 (show 0 ≤ 6000 by decide) fun x hx => by cases hx
theorem rowL_good {len : Int} {M : Nat} {part : List Tk → Option Res} {ss : List ByteArray} (hp : ∀ l, Tks len l → l.length ≤ M → Good len l.length (part l)) : ∀ (k : Nat) (n : Nd) (l : List Tk), l.length < k → l.length ≤ M → NdIn len n → Tks len l → Good len l.length (rowL part ss k n l)
  | 0, n, l, hk, _, _, _ => by omega
  | k + 1, n, [], hk, _, _, hl => absurd rfl hl.ne
  | k + 1, n, t :: r, hk, hM, hn, hl => by
    unfold rowL
    by_cases hi : isIt ss t = true
    · obtain ⟨h0, h1, hr⟩ := hl.tail (isIt_kind hi)
      rw [if_pos hi, if_neg hr.empty]
      rw [List.length_cons] at hk hM
      refine Good.next (hp r hr (by omega)) (fun m l hm hl' hle => ?_)
      exact (rowL_good hp k _ l (by omega) (by omega) (in2 hn hm h0 h1) hl').mono (by rw [List.length_cons]; omega)
    · rw [if_neg hi]
      exact ⟨hn, hl, Nat.le_refl _⟩
theorem rowP_good {len : Int} {M : Nat} {part : List Tk → Option Res} {ss : List ByteArray} (hp : ∀ l, Tks len l → l.length ≤ M → Good len l.length (part l)) (k : Nat) (l : List Tk) (hk : l.length < k) (hM : l.length ≤ M) (hl : Tks len l) : Good len l.length (rowP part ss k l) := by
  unfold rowP
  refine Good.next (hp l hl hM) (fun n l' hn hl' hle => ?_)
  exact (rowL_good hp k n l' (by omega) (by omega) hn hl').mono hle
theorem prefixP_good {len : Int} {M : Nat} {again other : Int → List Tk → Option Res} {kind : Int} {s : ByteArray} {d : Int} (ha : d + 1 ≤ 20 → ∀ l, Tks len l → l.length ≤ M → Good len l.length (again (d + 1) l)) (ho : ∀ l, Tks len l → l.length ≤ M → Good len l.length (other d l)) (l : List Tk) (hM : l.length ≤ M) (hl : Tks len l) : Good len l.length (prefixP again other kind s d l) := by
  cases l with
  | nil => exact absurd rfl hl.ne
  | cons t r =>
    unfold prefixP
    dsimp only
    by_cases hi : isIt [s] t = true
    · obtain ⟨h0, h1, hr⟩ := hl.tail (isIt_kind hi)
      rw [if_pos hi, if_neg hr.empty]
      by_cases hd : d + 1 > 20
      · rw [if_pos hd]
        exact ⟨h0, by omega, Or.inr rfl⟩
      · rw [if_neg hd]
        exact Good.next (ha (by omega) r hr (by rw [List.length_cons] at hM; omega)) (fun m l' hm hl' hle => ⟨in1 hm h0 h1, hl', by rw [List.length_cons]; omega⟩)
    · rw [if_neg hi]
      exact ho _ hl hM
theorem cmpP_good {len : Int} {M : Nat} {sum : List Tk → Option Res} (hp : ∀ l, Tks len l → l.length ≤ M → Good len l.length (sum l)) (l : List Tk) (hM : l.length ≤ M) (hl : Tks len l) : Good len l.length (cmpP sum l) := by
  unfold cmpP
  refine Good.next (hp l hl hM) (fun n l' hn hl' hle => ?_)
  cases l' with
  | nil => exact absurd rfl hl'.ne
  | cons t r =>
    dsimp only
    by_cases hi : isIt cmps t = true
    · obtain ⟨h0, h1, hr⟩ := hl'.tail (isIt_kind hi)
      rw [if_pos hi, if_neg hr.empty]
      rw [List.length_cons] at hle
      exact Good.next (hp r hr (by omega)) (fun m l'' hm hl'' hle'' => ⟨in2 hn hm h0 h1, hl'', by omega⟩)
    · rw [if_neg hi]
      exact ⟨hn, hl', hle⟩
theorem wantP_good {len : Int} {m : Nat} {s : ByteArray} {l : List Tk} {f : List Tk → Option Res} (hl : Tks len l) (hf : ∀ r, Tks len r → r.length < l.length → Good len m (f r)) : Good len m (wantP s l f) := by
  cases l with
  | nil => exact absurd rfl hl.ne
  | cons t r =>
    unfold wantP
    dsimp only
    by_cases hi : isIt [s] t = true
    · obtain ⟨h0, h1, hr⟩ := hl.tail (isIt_kind hi)
      rw [if_pos hi, if_neg hr.empty]
      exact hf r hr (by rw [List.length_cons]; omega)
    · rw [if_neg hi]
      exact ⟨hl.place.1, hl.place.2, Or.inl rfl⟩
theorem zoneL_good {len : Int} {M : Nat} {cast : List Tk → Option Res} (hp : ∀ l, Tks len l → l.length ≤ M → Good len l.length (cast l)) : ∀ (k : Nat) (n : Nd) (l : List Tk), l.length < k → l.length ≤ M → NdIn len n → Tks len l → Good len l.length (zoneL cast k n l)
  | 0, n, l, hk, _, _, _ => by omega
  | k + 1, n, [], hk, _, _, hl => absurd rfl hl.ne
  | k + 1, n, t :: r, hk, hM, hn, hl => by
    unfold zoneL
    by_cases hi : isIt [sAt] t = true
    · obtain ⟨h0, h1, hr⟩ := hl.tail (isIt_kind hi)
      rw [if_pos hi, if_neg hr.empty]
      rw [List.length_cons] at hk hM
      refine wantP_good hr (fun r1 hr1 hle1 => wantP_good hr1 (fun r2 hr2 hle2 => Good.next (hp r2 hr2 (by omega)) (fun m l hm hl' hle => ?_)))
      exact (zoneL_good hp k _ l (by omega) (by omega) (in2 hn hm h0 h1) hl').mono (by rw [List.length_cons]; omega)
    · rw [if_neg hi]
      exact ⟨hn, hl, Nat.le_refl _⟩
theorem zoneP_good {len : Int} {M : Nat} {cast : List Tk → Option Res} (hp : ∀ l, Tks len l → l.length ≤ M → Good len l.length (cast l)) (k : Nat) (l : List Tk) (hk : l.length < k) (hM : l.length ≤ M) (hl : Tks len l) : Good len l.length (zoneP cast k l) := by
  unfold zoneP
  refine Good.next (hp l hl hM) (fun n l' hn hl' hle => ?_)
  exact (zoneL_good hp k n l' (by omega) (by omega) hn hl').mono hle
theorem takeP_good {len : Int} {m : Nat} {l : List Tk} {f : Tk → List Tk → Option Res} (hl : Tks len l) (h4 : ∀ t, t.f0 = 4 → 0 ≤ t.f2 → t.f2 ≤ len → Good len m (f t l)) (hf : ∀ t r, t.f0 ≠ 4 → 0 ≤ t.f2 → t.f2 < len → Tks len r → r.length < l.length → Good len m (f t r)) : Good len m (takeP l f) := by
  cases l with
  | nil => exact absurd rfl hl.ne
  | cons t r =>
    unfold takeP
    dsimp only
    by_cases hi : t.f0 = 4
    · rw [if_pos hi]
      exact h4 t hi hl.place.1 hl.place.2
    · obtain ⟨h0, h1, hr⟩ := hl.tail hi
      rw [if_neg hi, if_neg hr.empty]
      exact hf t r hi h0 h1 hr (by rw [List.length_cons]; omega)
theorem castL_good {len : Int} : ∀ (k : Nat) (n : Nd) (l : List Tk), l.length < k → NdIn len n → Tks len l → Good len l.length (castL k n l)
  | 0, n, l, hk, _, _ => by omega
  | k + 1, n, [], hk, _, hl => absurd rfl hl.ne
  | k + 1, n, t :: r, hk, hn, hl => by
    unfold castL
    by_cases hi : isIt [sCast] t = true
    · obtain ⟨h0, h1, hr⟩ := hl.tail (isIt_kind hi)
      rw [if_pos hi, if_neg hr.empty]
      rw [List.length_cons] at hk
      refine takeP_good hr (fun u hu hu0 hu1 => ?_) (fun u r1 hu hu0 hu1 hr1 hle1 => ?_)
      · rw [if_pos (Or.inl (by omega))]
        exact ⟨hu0, hu1, Or.inl rfl⟩
      · by_cases hc : u.f0 ≠ 1 ∨ hasB kept8 u.f1 = true
        · rw [if_pos hc]
          exact ⟨hu0, by omega, Or.inl rfl⟩
        · rw [if_neg hc]
          exact (castL_good k _ r1 (by omega) (in1 hn h0 h1) hr1).mono (by rw [List.length_cons]; omega)
    · rw [if_neg hi]
      exact ⟨hn, hl, Nat.le_refl _⟩
theorem castP_good {len : Int} {M : Nat} {prim : List Tk → Option Res} (hp : ∀ l, Tks len l → l.length ≤ M → Good len l.length (prim l)) (k : Nat) (l : List Tk) (hk : l.length < k) (hM : l.length ≤ M) (hl : Tks len l) : Good len l.length (castP prim k l) := by
  unfold castP
  refine Good.next (hp l hl hM) (fun n l' hn hl' hle => ?_)
  exact (castL_good k n l' (by omega) hn hl').mono hle
theorem argsL_good {len : Int} {m : Nat} {part : List Tk → Option Res} {f : List Nd → List Tk → Option Res} (hp : ∀ l, Tks len l → l.length ≤ m → Good len l.length (part l)) (hf : ∀ ns l, ns.length ≤ 6000 → (∀ x, x ∈ ns → NdIn len x) → Tks len l → l.length ≤ m → Good len m (f ns l)) : ∀ (k : Nat) (ns : List Nd) (l : List Tk), ns.length + k ≤ 6000 → l.length < k → l.length ≤ m → (∀ x, x ∈ ns → NdIn len x) → Tks len l → Good len m (argsL part k ns l f)
  | 0, ns, l, _, hk, _, _, _ => by omega
  | k + 1, ns, [], _, hk, _, _, hl => absurd rfl hl.ne
  | k + 1, ns, t :: r, hK, hk, hm, hn, hl => by
    unfold argsL
    by_cases hi : isIt [sComma] t = true
    · obtain ⟨h0, h1, hr⟩ := hl.tail (isIt_kind hi)
      rw [if_pos hi, if_neg hr.empty]
      rw [List.length_cons] at hk hm
      refine Good.next (hp r hr (by omega)) (fun x l hx hl' hle => ?_)
      refine argsL_good hp hf k _ l (by rw [List.length_append, List.length_singleton]; omega) (by omega) (by omega) (fun y hy => ?_) hl'
      rcases List.mem_append.1 hy with hy | hy
      · exact hn y hy
      · rw [List.mem_singleton.1 hy]
        exact hx
    · rw [if_neg hi]
      exact wantP_good hl (fun r1 hr1 hle1 => hf ns r1 (by omega) hn hr1 (by omega))
theorem argsP_good {len : Int} {m : Nat} {part : List Tk → Option Res} {f : List Nd → List Tk → Option Res} (hp : ∀ l, Tks len l → l.length ≤ m → Good len l.length (part l)) (hf : ∀ ns l, ns.length ≤ 6000 → (∀ x, x ∈ ns → NdIn len x) → Tks len l → l.length ≤ m → Good len m (f ns l)) (k : Nat) (hK : k ≤ 5000) (l : List Tk) (hk : l.length < k) (hm : l.length ≤ m) (hl : Tks len l) : Good len m (argsP part k l f) := by
  cases l with
  | nil => exact absurd rfl hl.ne
  | cons t r =>
    unfold argsP
    dsimp only
    by_cases hi : isIt [sShut] t = true
    · obtain ⟨h0, h1, hr⟩ := hl.tail (isIt_kind hi)
      rw [if_pos hi, if_neg hr.empty]
      rw [List.length_cons] at hm
      exact hf [] r (Nat.zero_le _) (fun x hx => by cases hx) hr (by omega)
    · rw [if_neg hi]
      refine Good.next (hp _ hl hm) (fun x l' hx hl' hle => ?_)
      refine argsL_good hp hf k _ l' (by rw [List.length_singleton]; omega) (by omega) (by omega) (fun y hy => ?_) hl'
      rw [List.mem_singleton.1 hy]
      exact hx
theorem namedP_good {len : Int} {or : Int → List Tk → Option Res} {k : Nat} {d : Int} {t : Tk} (l : List Tk) (hp : d + 1 ≤ 20 → ∀ l', Tks len l' → l'.length ≤ l.length → Good len l'.length (or (d + 1) l')) (h0 : 0 ≤ t.f2) (h1 : t.f2 < len) (hK : k ≤ 5000) (hk : l.length < k) (hl : Tks len l) : Good len l.length (namedP or k d t l) := by
  cases l with
  | nil => exact absurd rfl hl.ne
  | cons u r =>
    unfold namedP
    dsimp only
    by_cases hi : u.f0 = 2 ∧ hasB types4 t.f1 = true
    · obtain ⟨h2, h3, hr⟩ := hl.tail (by omega)
      rw [if_pos hi, if_neg hr.empty]
      exact ⟨in1 (in0 h2 h3) h0 h1, hr, by rw [List.length_cons]; omega⟩
    · rw [if_neg hi]
      refine wantP_good hl (fun r1 hr1 hle1 => ?_)
      by_cases hd : d + 1 > 20
      · rw [if_pos hd]
        exact ⟨h0, by omega, Or.inr rfl⟩
      · rw [if_neg hd]
        exact argsP_good (m := (u :: r).length) (f := fun ns l => some (.ok ⟨9, t.f1, ns, t.f2⟩ l)) (fun l' hl' hm => hp (by omega) l' hl' hm) (fun ns l' hlen hns hl' hm => ⟨.mk _ h0 h1 hlen hns, hl', hm⟩) k hK r1 (by omega) (by omega) hr1
theorem primP_good {len : Int} {or : Int → List Tk → Option Res} {k : Nat} {d : Int} (l : List Tk) (hp : d + 1 ≤ 20 → ∀ l', Tks len l' → l'.length ≤ l.length → Good len l'.length (or (d + 1) l')) (hK : k ≤ 5000) (hk : l.length < k) (hl : Tks len l) : Good len l.length (primP or k d l) := by
  unfold primP
  refine takeP_good hl (fun t h4 h0 h1 => ?_) (fun t r h4 h0 h1 hr hle => ?_)
  · rw [if_neg (by omega), if_neg (by omega), if_neg (by omega), if_neg (by omega), if_neg (by omega)]
    exact ⟨h0, h1, Or.inl rfl⟩
  · by_cases c1 : t.f0 = 0
    · rw [if_pos c1]
      exact ⟨in0 h0 h1, hr, by omega⟩
    rw [if_neg c1]
    by_cases c2 : t.f0 = 2
    · rw [if_pos c2]
      exact ⟨in0 h0 h1, hr, by omega⟩
    rw [if_neg c2]
    by_cases c3 : t.f0 = 3 ∧ t.f1 = sOpen
    · rw [if_pos c3]
      by_cases hd : d + 1 > 20
      · rw [if_pos hd]
        exact ⟨h0, by omega, Or.inr rfl⟩
      · rw [if_neg hd]
        refine Good.next (hp (by omega) r hr (by omega)) (fun n l' hn hl' hle' => ?_)
        exact wantP_good hl' (fun r1 hr1 hle1 => ⟨hn, hr1, by omega⟩)
    rw [if_neg c3]
    by_cases c4 : t.f0 = 1 ∧ (t.f1 = sTrue ∨ t.f1 = sFalse)
    · rw [if_pos c4]
      exact ⟨in0 h0 h1, hr, by omega⟩
    rw [if_neg c4]
    by_cases c5 : t.f0 = 1 ∧ hasB kept8 t.f1 = false
    · rw [if_pos c5]
      exact (namedP_good r (fun hd l' hl' hm => hp hd l' hl' (by omega)) h0 h1 hK (by omega) hr).mono (by omega)
    · rw [if_neg c5]
      exact ⟨h0, by omega, Or.inl rfl⟩
theorem parse_places {len : Int} : ∀ (k lv : Nat) (d : Int) (l : List Tk), k ≤ 5000 → lv ≤ 9 → 0 ≤ d → d ≤ 20 → l.length + 12 * (21 - d).toNat + (10 - lv) + 1 ≤ k → Tks len l → Good len l.length (parse k lv d l)
  | 0, lv, d, l, hK, h9, h0, h20, hk, hl => by omega
  | k + 1, lv, d, l, hK, h9, h0, h20, hk, hl => by
    have step : ∀ m, lv < m → m ≤ 9 → ∀ l', Tks len l' → l'.length ≤ l.length → Good len l'.length (parse k m d l') := fun m h1 h2 l' hl' hm => parse_places k m d l' (by omega) h2 h0 h20 (by omega) hl'
    have deep : ∀ m, lv ≤ m + 9 → m ≤ 9 → d + 1 ≤ 20 → ∀ l', Tks len l' → l'.length ≤ l.length → Good len l'.length (parse k m (d + 1) l') := fun m h1 h2 hd l' hl' hm => parse_places k m (d + 1) l' (by omega) h2 (by omega) hd (by omega) hl'
    have hk' : l.length < k := by omega
    match lv, h9, step, deep with
    | 0, _, step, deep => exact rowP_good (step 1 (by omega) (by omega)) k l hk' (Nat.le_refl _) hl
    | 1, _, step, deep => exact rowP_good (step 2 (by omega) (by omega)) k l hk' (Nat.le_refl _) hl
    | 2, _, step, deep => exact prefixP_good (fun hd => deep 2 (by omega) (by omega) hd) (step 3 (by omega) (by omega)) l (Nat.le_refl _) hl
    | 3, _, step, deep => exact cmpP_good (step 4 (by omega) (by omega)) l (Nat.le_refl _) hl
    | 4, _, step, deep => exact rowP_good (step 5 (by omega) (by omega)) k l hk' (Nat.le_refl _) hl
    | 5, _, step, deep => exact rowP_good (step 6 (by omega) (by omega)) k l hk' (Nat.le_refl _) hl
    | 6, _, step, deep => exact prefixP_good (fun hd => deep 6 (by omega) (by omega) hd) (step 7 (by omega) (by omega)) l (Nat.le_refl _) hl
    | 7, _, step, deep => exact zoneP_good (step 8 (by omega) (by omega)) k l hk' (Nat.le_refl _) hl
    | 8, _, step, deep => exact castP_good (step 9 (by omega) (by omega)) k l hk' (Nat.le_refl _) hl
    | 9, _, step, deep => exact primP_good l (fun hd => deep 0 (by omega) (by omega) hd) (by omega) hk' hl
end Go.Proofs.YtfgogfdbjbnlbaaDoor.PExpr
end
section
namespace Go.Proofs.YtfgogfdbjbnlbaaDoor.PExpr
open Go.RowKit Go.Proofs.YtfgogfdbjbnlbaaDoorW.PrintWords Go.Proofs.YtfgogfdbjbnlbaaDoorW.PrintLast Go.Proofs.YtfgogfdbjbnlbaaDoorW.PrintMore
set_option linter.unusedVariables false
set_option linter.unusedSimpArgs false
def TokAt (p : Pt) : TRes → Prop
  | .ok t l => t.f2 = p.f2 ∧ t.f0 ≠ 4
  | .bad why pos => why = 30 ∧ pos = p.f2
theorem num_at (p : Pt) (r : List Pt) : TokAt p (numP p r) := by
  unfold numP
  split
  · split
    · exact ⟨rfl, show (0 : Int) ≠ 4 by decide⟩
    · exact ⟨rfl, show (0 : Int) ≠ 4 by decide⟩
  · exact ⟨rfl, show (0 : Int) ≠ 4 by decide⟩
theorem sign_at (p : Pt) (r : List Pt) : TokAt p (signP p r) := by
  unfold signP
  split
  · split
    · exact ⟨rfl, show (3 : Int) ≠ 4 by decide⟩
    · exact ⟨rfl, show (3 : Int) ≠ 4 by decide⟩
  · exact ⟨rfl, show (3 : Int) ≠ 4 by decide⟩
theorem token_at {s : ByteArray} {p : Pt} {r : List Pt} {R : TRes} (h : tokenP s p r = some R) : TokAt p R := by
  unfold tokenP at h
  by_cases c1 : p.f1 = sQuote
  · rw [if_pos c1] at h
    obtain ⟨q, hq, hR⟩ := Option.map_eq_some_iff.1 h
    cases q with
    | none => subst hR; exact ⟨rfl, rfl⟩
    | some x => subst hR; exact ⟨rfl, show (2 : Int) ≠ 4 by decide⟩
  rw [if_neg c1] at h
  by_cases c2 : p.f0 = 1
  · rw [if_pos c2] at h
    obtain rfl := Option.some.inj h
    exact num_at p r
  rw [if_neg c2] at h
  by_cases c3 : p.f0 = 2
  · rw [if_pos c3] at h
    obtain rfl := Option.some.inj h
    exact ⟨rfl, show (1 : Int) ≠ 4 by decide⟩
  · rw [if_neg c3] at h
    obtain rfl := Option.some.inj h
    exact sign_at p r
end Go.Proofs.YtfgogfdbjbnlbaaDoor.PExpr
end
section
namespace Go.Proofs.YtfgogfdbjbnlbaaDoor.PExpr
open Go.RowKit Go.Proofs.YtfgogfdbjbnlbaaDoorW.PrintWords Go.Proofs.YtfgogfdbjbnlbaaDoorW.PrintLast Go.Proofs.YtfgogfdbjbnlbaaDoorW.PrintMore
set_option linter.unusedVariables false
set_option linter.unusedSimpArgs false
theorem hasQ_size {s : ByteArray} (h : hasQ s = true) : 1 ≤ s.size := by
  unfold hasQ at h
  by_cases h1 : 1 ≤ s.size
  · exact h1
  · rw [if_neg h1] at h
    cases h
theorem quoteL_some (s : ByteArray) : ∀ (f : Nat) (acc : List UInt8) (k : Nat), s.size < f + k → f ≠ 0 → ∃ q, quoteL s f acc k = some q
  | 0, acc, k, h, h0 => absurd rfl h0
  | f + 1, acc, k, h, _ => by
    unfold quoteL
    by_cases c1 : quoteAt (s.extract k s.size) < 0
    · rw [if_pos c1]
      exact ⟨_, rfl⟩
    rw [if_neg c1]
    by_cases c2 : hasQ (s.extract (k + (quoteAt (s.extract k s.size)).toNat + 1) s.size) = true
    · rw [if_pos c2]
      have h1 := hasQ_size c2
      rw [ByteArray.size_extract] at h1
      exact quoteL_some s f _ _ (by omega) (by omega)
    · rw [if_neg c2]
      exact ⟨_, rfl⟩
end Go.Proofs.YtfgogfdbjbnlbaaDoor.PExpr
end
section
namespace Go.Proofs.YtfgogfdbjbnlbaaDoor.PExpr
open Go.RowKit Go.Proofs.YtfgogfdbjbnlbaaDoorW.PrintWords Go.Proofs.YtfgogfdbjbnlbaaDoorW.PrintLast Go.Proofs.YtfgogfdbjbnlbaaDoorW.PrintMore
set_option linter.unusedVariables false
set_option linter.unusedSimpArgs false
theorem token_some (s : ByteArray) (p : Pt) (r : List Pt) : ∃ R, tokenP s p r = some R := by
  unfold tokenP
  by_cases c1 : p.f1 = sQuote
  · rw [if_pos c1]
    obtain ⟨q, hq⟩ := quoteL_some s (s.size + 2) [] (p.f2.toNat + 1) (by omega) (by omega)
    rw [hq]
    exact ⟨_, rfl⟩
  rw [if_neg c1]
  by_cases c2 : p.f0 = 1
  · rw [if_pos c2]
    exact ⟨_, rfl⟩
  rw [if_neg c2]
  by_cases c3 : p.f0 = 2
  · rw [if_pos c3]
    exact ⟨_, rfl⟩
  · rw [if_neg c3]
    exact ⟨_, rfl⟩
def TkIn (s : ByteArray) (t : Tk) : Prop := t.f0 ≠ 4 ∧ 0 ≤ t.f2 ∧ t.f2 < s.size
def LexGood (s : ByteArray) (m : Nat) : LexR → Prop
  | .toks l => (∀ t, t ∈ l → TkIn s t) ∧ l.length ≤ m
  | .bad why pos => why = 30 ∧ 0 ≤ pos ∧ pos < s.size
theorem lexL_good (s : ByteArray) : ∀ (f : Nat) (acc : List Tk) (l : List Pt), l.length < f → (∀ p, p ∈ l → 0 ≤ p.f2 ∧ p.f2 < s.size) → (∀ t, t ∈ acc → TkIn s t) → ∃ R, lexL s f acc l = some R ∧ LexGood s (acc.length + l.length) R
  | 0, acc, l, hf, _, _ => by omega
  | f + 1, acc, [], hf, _, ha => ⟨_, rfl, ha, by simp⟩
  | f + 1, acc, p :: r, hf, hp, ha => by
    obtain ⟨R, hR⟩ := token_some s p r
    have hat := token_at hR
    have h0 := hp p (by simp)
    rw [lexL, hR]
    cases R with
    | bad why pos => exact ⟨_, rfl, hat.1, by rw [hat.2]; exact h0.1, by rw [hat.2]; exact h0.2⟩
    | ok t l =>
      have hm := token_mem hR
      rw [List.length_cons] at hf
      obtain ⟨R', h1, h2⟩ := lexL_good s f (acc ++ [t]) l (by omega) (fun q hq => hp q (List.mem_cons_of_mem _ (hm.1 q hq))) (fun u hu => by
        rcases List.mem_append.1 hu with hu | hu
        · exact ha u hu
        · rw [List.mem_singleton.1 hu]
          exact ⟨hat.2, by rw [hat.1]; exact h0.1, by rw [hat.1]; exact h0.2⟩)
      refine ⟨R', h1, ?_⟩
      cases R' with
      | toks l' => exact ⟨h2.1, by have := h2.2; simp at this ⊢; omega⟩
      | bad why pos => exact h2
end Go.Proofs.YtfgogfdbjbnlbaaDoor.PExpr
end
section
namespace Go.Proofs.YtfgogfdbjbnlbaaDoor.PExpr
open Go.RowKit Go.Proofs.YtfgogfdbjbnlbaaDoor.Utf Go.Proofs.YtfgogfdbjbnlbaaDoorW.PrintWords Go.Proofs.YtfgogfdbjbnlbaaDoorW.PrintLast Go.Proofs.YtfgogfdbjbnlbaaDoorW.PrintMore
set_option linter.unusedVariables false
set_option linter.unusedSimpArgs false
def Full (l : List Pt) : Prop := ∀ q, q ∈ l → 1 ≤ q.f1.size
theorem loop_full (s : ByteArray) : ∀ (d : Nat) (l : List Pt) (last : Int) (pos : Nat) (R : List Pt) (x y : Int), spLoop s d l last pos = some (R, x, y) → Full l → (y = 0 ∧ Full R) ∨ (y = 21 ∧ 0 ≤ x ∧ x < s.size)
  | 0, l, last, pos, R, x, y, h, _ => by cases h
  | d + 1, l, last, pos, R, x, y, h, hl => by
    unfold spLoop at h
    by_cases hlt : pos < s.size
    · rw [if_pos hlt] at h
      have h1 := decode_width s pos hlt
      split at h
      · injection h with h
        injection h with _ h
        injection h with h2 h3
        exact Or.inr ⟨h3.symm, by omega, by omega⟩
      split at h
      · injection h with h
        injection h with _ h
        injection h with h2 h3
        exact Or.inr ⟨h3.symm, by omega, by omega⟩
      rename_i hb
      have hw := enc_width s pos hlt (fun q => hb ((bad_iff s pos hlt).mpr q))
      split at h
      · exact loop_full s d l 0 _ R x y h hl
      split at h
      · split at h
        · cases h
        rename_i hl0
        split at h
        · refine loop_full s d _ _ _ R x y h (fun q hq => ?_)
          rcases List.mem_or_eq_of_mem_set hq with hq | hq
          · exact hl q hq
          · subst hq
            dsimp only
            rw [ByteArray.size_append, hw]
            omega
        · cases h
      · refine loop_full s d _ _ _ R x y h (fun q hq => ?_)
        rcases List.mem_append.1 hq with hq | hq
        · exact hl q hq
        · obtain rfl := List.mem_singleton.1 hq
          dsimp only
          rw [hw]
          exact h1
    · rw [if_neg hlt] at h
      injection h with h
      injection h with h h2
      injection h2 with h2 h3
      subst h
      exact Or.inl ⟨h3.symm, hl⟩
end Go.Proofs.YtfgogfdbjbnlbaaDoor.PExpr
end
section
namespace Go.Proofs.YtfgogfdbjbnlbaaDoor.PExpr
open Go.RowKit Go.Proofs.YtfgogfdbjbnlbaaDoor.Utf Go.Proofs.YtfgogfdbjbnlbaaDoorW.PrintWords Go.Proofs.YtfgogfdbjbnlbaaDoorW.PrintLast Go.Proofs.YtfgogfdbjbnlbaaDoorW.PrintMore
set_option linter.unusedVariables false
set_option linter.unusedSimpArgs false
theorem loop_some (s : ByteArray) (hs : s.size ≤ 2048) : ∀ (d : Nat) (l : List Pt) (last : Int) (pos : Nat), s.size < d + pos → pos ≤ s.size → (∀ q, q ∈ l → q.f1.size ≤ pos) → (last = 0 ∨ l.length ≠ 0) → ∃ R, spLoop s d l last pos = some R
  | 0, l, last, pos, hd, hp, _, _ => by omega
  | d + 1, l, last, pos, hd, hp, hl, hlast => by
    unfold spLoop
    by_cases hlt : pos < s.size
    · rw [if_pos hlt]
      have h1 := decode_width s pos hlt
      have h2 := decode_end s pos hlt
      have hl2 : ∀ q, q ∈ l → q.f1.size ≤ pos + (Utf8.decode s pos).2 := fun q hq => by have := hl q hq; omega
      split
      · exact ⟨_, rfl⟩
      split
      · exact ⟨_, rfl⟩
      rename_i hb
      have hw := enc_width s pos hlt (fun q => hb ((bad_iff s pos hlt).mpr q))
      split
      · exact loop_some s hs d l 0 _ (by omega) h2 hl2 (Or.inl rfl)
      rename_i hk0
      split
      · rename_i hk
        have hl0 : l.length ≠ 0 := by
          rcases hlast with q | q
          · exact absurd (hk.1.trans q) hk0
          · exact q
        have hla := hl _ (lastP_mem hl0)
        rw [if_neg hl0, if_pos (by rw [hw]; omega)]
        refine loop_some s hs d _ _ _ (by omega) h2 (fun q hq => ?_) (Or.inr (by rw [List.length_set]; exact hl0))
        rcases List.mem_or_eq_of_mem_set hq with hq | hq
        · exact hl2 q hq
        · subst hq
          dsimp only
          rw [ByteArray.size_append, hw]
          omega
      · refine loop_some s hs d _ _ _ (by omega) h2 (fun q hq => ?_) (Or.inr (by simp))
        rcases List.mem_append.1 hq with hq | hq
        · exact hl2 q hq
        · obtain rfl := List.mem_singleton.1 hq
          dsimp only
          rw [hw]
          omega
    · rw [if_neg hlt]
      exact ⟨_, rfl⟩
end Go.Proofs.YtfgogfdbjbnlbaaDoor.PExpr
end
section
namespace Go.Proofs.YtfgogfdbjbnlbaaDoor.PExpr
open Go.RowKit Go.Proofs.YtfgogfdbjbnlbaaDoorW.PrintWords Go.Proofs.YtfgogfdbjbnlbaaDoorW.PrintLast Go.Proofs.YtfgogfdbjbnlbaaDoorW.PrintMore
set_option linter.unusedVariables false
set_option linter.unusedSimpArgs false
theorem tks_last (s : ByteArray) : ∀ (l : List Tk), (∀ t, t ∈ l → TkIn s t) → Tks s.size (l ++ [lastT s])
  | [], _ => Tks.fin _ rfl (by show (0 : Int) ≤ s.size; omega) (Int.le_refl _)
  | t :: r, h => by
    have ht := h t (by simp)
    exact Tks.more t _ ht.1 ht.2.1 ht.2.2 (tks_last s r (fun u hu => h u (by simp [hu])))
end Go.Proofs.YtfgogfdbjbnlbaaDoor.PExpr
end
section
namespace Go.Proofs.YtfgogfdbjbnlbaaDoor.PExpr
open Go.RowKit Go.Proofs.YtfgogfdbjbnlbaaDoorW.PrintWords Go.Proofs.YtfgogfdbjbnlbaaDoorW.PrintLast Go.Proofs.YtfgogfdbjbnlbaaDoorW.PrintMore
set_option linter.unusedVariables false
set_option linter.unusedSimpArgs false
theorem readP_good (s : ByteArray) (l : List Tk) (hl : ∀ t, t ∈ l → TkIn s t) (hm : l.length ≤ 2049) : ∃ n pos why, readP (l ++ [lastT s]) = some (n, pos, why) ∧ ((why = 0 ∧ pos = 0 ∧ NdIn s.size n) ∨ ((why = 30 ∨ why = 31) ∧ 0 ≤ pos ∧ pos ≤ s.size)) := by
  have hg := parse_places (len := s.size) 5000 0 0 (l ++ [lastT s]) (Nat.le_refl _) (by decide) (by decide) (by decide) (by rw [List.length_append, List.length_singleton]; have : (21 - (0 : Int)).toNat = 21 := rfl; omega) (tks_last s l hl)
  unfold readP
  cases hR : parse 5000 0 0 (l ++ [lastT s]) with
  | none => rw [hR] at hg; exact hg.elim
  | some R =>
    rw [hR] at hg
    cases R with
    | bad why pos => exact ⟨_, _, _, rfl, Or.inr ⟨hg.2.2, hg.1, hg.2.1⟩⟩
    | ok n r =>
      cases r with
      | nil => exact absurd rfl hg.2.1.ne
      | cons t r =>
        by_cases h4 : t.f0 ≠ 4
        · exact ⟨_, _, _, if_pos h4, Or.inr ⟨Or.inl rfl, hg.2.1.place.1, hg.2.1.place.2⟩⟩
        · exact ⟨_, _, _, if_neg h4, Or.inl ⟨rfl, rfl, hg.1⟩⟩
end Go.Proofs.YtfgogfdbjbnlbaaDoor.PExpr
end
section
namespace Go.Proofs.YtfgogfdbjbnlbaaDoor.PExpr
open Go.RowKit Go.Proofs.YtfgogfdbjbnlbaaDoorW.PrintWords Go.Proofs.YtfgogfdbjbnlbaaDoorW.PrintLast Go.Proofs.YtfgogfdbjbnlbaaDoorW.PrintMore
set_option linter.unusedVariables false
set_option linter.unusedSimpArgs false
def shP (d : Int) (p : Pt) : Pt := ⟨p.f0, p.f1, p.f2 + d⟩
def shT (d : Int) (t : Tk) : Tk := ⟨t.f0, t.f1, t.f2 + d⟩
def Behind (e : Int) (z : List Pt) : Prop := (∃ q r, z = q :: r ∧ q.f0 = 3 ∧ q.f1 = sShut) ∧ ∀ q, q ∈ z → e ≤ q.f2
theorem index_app (x y : List UInt8) (c : UInt8) (h : 0 ≤ Lib.indexByte x c) : Lib.indexByte (x ++ y) c = Lib.indexByte x c := by
  induction x with
  | nil => exact absurd h (by simp [Lib.indexByte])
  | cons b x ih =>
    rw [List.cons_append]
    unfold Lib.indexByte at h ⊢
    by_cases hb : (b == c) = true
    · rw [if_pos hb, if_pos hb]
    · rw [if_neg hb] at h
      rw [if_neg hb, if_neg hb]
      by_cases hx : (Lib.indexByte x c == -1) = true
      · rw [if_pos hx] at h
        exact absurd h (by decide)
      · have h0 : 0 ≤ Lib.indexByte x c := by
          have := Lib.indexByte_ge x c
          have hx' : Lib.indexByte x c ≠ -1 := by simpa using hx
          omega
        rw [ih h0]
theorem emb_extract (a s b : ByteArray) (k : Nat) (hk : k ≤ s.size) : (a ++ s ++ b).extract (a.size + k) (a ++ s ++ b).size = s.extract k s.size ++ b := by
  apply ByteArray.ext
  apply Array.toList_inj.mp
  have h1 : a.data.toList.length = a.size := by simp
  have h2 : s.data.toList.length = s.size := by simp
  have h3 : b.data.toList.length = b.size := by simp
  have h4 : (a ++ s ++ b).size = a.size + s.size + b.size := by simp
  have h5 : (a ++ s ++ b).data.toList = a.data.toList ++ (s.data.toList ++ b.data.toList) := by simp
  rw [h4]
  simp only [ByteArray.data_extract, Array.toList_extract, ByteArray.data_append, Array.toList_append, List.extract_eq_take_drop, List.append_assoc]
  rw [List.drop_append, List.drop_of_length_le (by omega), List.nil_append, h1, List.take_of_length_le (by rw [List.length_drop, List.length_append]; omega), List.drop_append, List.take_of_length_le (by rw [List.length_drop]; omega)]
  have e : a.size + k - a.size - s.data.toList.length = 0 := by omega
  rw [e, Nat.add_sub_cancel_left]
  rfl
theorem quoteAt_app (x b : ByteArray) (h : 0 ≤ quoteAt x) : quoteAt (x ++ b) = quoteAt x := by
  unfold quoteAt at h ⊢
  rw [ByteArray.data_append, Array.toList_append]
  exact index_app _ _ _ h
theorem extract_app (x b : ByteArray) (n : Nat) (h : n ≤ x.size) : (x ++ b).extract 0 n = x.extract 0 n := by
  apply ByteArray.ext
  apply Array.toList_inj.mp
  have h1 : x.data.toList.length = x.size := by simp
  simp only [ByteArray.data_extract, Array.toList_extract, ByteArray.data_append, Array.toList_append, List.extract_eq_take_drop, List.drop_zero]
  rw [List.take_append_of_le_length (by omega)]
theorem hasQ_app (x b : ByteArray) (hb : hasQ b = false) : hasQ (x ++ b) = hasQ x := by
  by_cases hx : 1 ≤ x.size
  · unfold hasQ
    have h4 : (x ++ b).size = x.size + b.size := by simp
    rw [if_pos hx, if_pos (by omega), extract_app x b 1 hx]
  · have e : x = ⟨#[]⟩ := by
      have h0 : x.size = 0 := by omega
      apply ByteArray.ext
      apply Array.toList_inj.mp
      have h1 : x.data.toList.length = x.size := by simp
      exact List.eq_nil_of_length_eq_zero (by omega)
    have e2 : x ++ b = b := by
      rw [e]
      apply ByteArray.ext
      simp
    rw [e2, hb]
    unfold hasQ
    rw [if_neg hx]
theorem quoteL_emb (a s b : ByteArray) (hb : hasQ b = false) : ∀ (f f' : Nat) (acc : List UInt8) (k : Nat) (t : List UInt8) (k2 : Nat), f ≤ f' → k ≤ s.size → quoteL s f acc k = some (some (t, k2)) → quoteL (a ++ s ++ b) f' acc (a.size + k) = some (some (t, a.size + k2)) ∧ k2 ≤ s.size
  | 0, f', acc, k, t, k2, hf, hk, h => by cases h
  | f + 1, 0, acc, k, t, k2, hf, hk, h => by omega
  | f + 1, f' + 1, acc, k, t, k2, hf, hk, h => by
    rw [quoteL] at h
    by_cases c1 : quoteAt (s.extract k s.size) < 0
    · rw [if_pos c1] at h
      cases h
    rw [if_neg c1] at h
    have hlt := quoteAt_lt (s.extract k s.size)
    rw [ByteArray.size_extract] at hlt
    have eq := quoteAt_app (s.extract k s.size) b (by omega)
    have eh := hasQ_app (s.extract (k + (quoteAt (s.extract k s.size)).toNat + 1) s.size) b hb
    have ex := extract_app (s.extract k s.size) b (quoteAt (s.extract k s.size)).toNat (by rw [ByteArray.size_extract]; omega)
    rw [quoteL, emb_extract a s b k hk, eq, if_neg c1, show a.size + k + (quoteAt (s.extract k s.size)).toNat + 1 = a.size + (k + (quoteAt (s.extract k s.size)).toNat + 1) by omega, emb_extract a s b _ (by omega), eh, ex]
    by_cases c2 : hasQ (s.extract (k + (quoteAt (s.extract k s.size)).toNat + 1) s.size) = true
    · rw [if_pos c2] at h
      rw [if_pos c2]
      have h1 := hasQ_size c2
      rw [ByteArray.size_extract] at h1
      exact quoteL_emb a s b hb f f' _ _ t k2 (by omega) (by omega) h
    · rw [if_neg c2] at h
      rw [if_neg c2]
      simp only [Option.some.injEq, Prod.mk.injEq] at h
      obtain ⟨h1, h2⟩ := h
      rw [h1, ← h2]
      exact ⟨rfl, by omega⟩
theorem behind_emb (d : Int) (k : Int) (r z : List Pt) (hz : ∀ q, q ∈ z → k + d ≤ q.f2) : behind (k + d) (r.map (shP d) ++ z) = (behind k r).map (shP d) ++ z := by
  unfold behind
  rw [List.filter_append]
  congr 1
  · induction r with
    | nil => rfl
    | cons p r ih =>
      rw [List.map_cons, List.filter_cons, List.filter_cons, ih]
      have e : decide ((shP d p).f2 < k + d) = decide (p.f2 < k) := by
        have : (shP d p).f2 = p.f2 + d := rfl
        rw [this]
        by_cases h : p.f2 < k
        · rw [decide_eq_true h, decide_eq_true (by omega)]
        · rw [decide_eq_false h, decide_eq_false (by omega)]
      rw [e]
      by_cases h : p.f2 < k
      · simp [h]
      · simp [h]
  · rw [List.filter_eq_self]
    intro q hq
    have := hz q hq
    simp
    omega
theorem no_pair (c : UInt8) (x : ByteArray) (h : c ≠ 60 ∧ c ≠ 62 ∧ c ≠ 58) : hasB pairs4 ((⟨#[c]⟩ : ByteArray) ++ x) = false := by
  obtain ⟨h1, h2, h3⟩ := h
  unfold hasB pairs4
  have e : ((⟨#[c]⟩ : ByteArray) ++ x).data.toList = c :: x.data.toList := by simp
  simp only [List.any_cons, List.any_nil, Bool.or_false, Bool.or_eq_false_iff, e]
  have q1 : (60 : UInt8) ≠ c := fun e => h1 e.symm
  have q2 : (62 : UInt8) ≠ c := fun e => h2 e.symm
  have q3 : (58 : UInt8) ≠ c := fun e => h3 e.symm
  simp [h1, h2, h3]
theorem no_pair_shut (x : ByteArray) : hasB pairs4 (x ++ sShut) = false := by
  unfold hasB pairs4
  have e : (x ++ sShut).data.toList = x.data.toList ++ [41] := by simp [sShut]
  have hn : ∀ (l : List UInt8) (c d : UInt8), d ≠ 41 → (l ++ [41] == [c, d]) = false := by
    intro l c d hd
    rw [beq_eq_false_iff_ne]
    intro q
    have q2 := congrArg List.getLast? q
    rw [List.getLast?_concat] at q2
    simp at q2
    exact hd q2.symm
  simp only [List.any_cons, List.any_nil, Bool.or_false, Bool.or_eq_false_iff, e]
  exact ⟨hn _ 60 61 (by decide), hn _ 62 61 (by decide), hn _ 60 62 (by decide), hn _ 58 58 (by decide)⟩
theorem name_emb (d pos : Int) (z : List Pt) (hz : ∃ q r, z = q :: r ∧ q.f0 = 3 ∧ q.f1 = sShut) : ∀ (r : List Pt) (t : ByteArray), nameL (pos + d) t (r.map (shP d) ++ z) = ((nameL pos t r).1, (nameL pos t r).2.map (shP d) ++ z)
  | [], t => by
    obtain ⟨q, r, rfl, h3, _⟩ := hz
    show (if q.f2 = _ ∧ q.f0 ≠ 3 then _ else _) = _
    rw [if_neg (fun h => h.2 h3)]
    rfl
  | p :: r, t => by
    rw [List.map_cons, List.cons_append]
    show (if p.f2 + d = pos + d + t.size ∧ p.f0 ≠ 3 then nameL (pos + d) (t ++ p.f1) (r.map (shP d) ++ z) else (t, shP d p :: (r.map (shP d) ++ z))) = _
    rw [nameL]
    by_cases h : p.f2 = pos + t.size ∧ p.f0 ≠ 3
    · rw [if_pos h, if_pos ⟨by omega, h.2⟩]
      exact name_emb d pos z hz r _
    · rw [if_neg h, if_neg (fun q => h ⟨by omega, q.2⟩)]
      rfl
def embR (d : Int) (z : List Pt) : TRes → TRes
  | .ok t l => .ok (shT d t) (l.map (shP d) ++ z)
  | .bad why pos => .bad why (pos + d)
theorem sign_emb (d : Int) (z : List Pt) (hz : ∃ q r, z = q :: r ∧ q.f0 = 3 ∧ q.f1 = sShut) (p : Pt) (r : List Pt) : signP (shP d p) (r.map (shP d) ++ z) = embR d z (signP p r) := by
  cases r with
  | nil =>
    obtain ⟨q, r, rfl, h3, h1⟩ := hz
    show (if q.f2 = _ ∧ hasB pairs4 (p.f1 ++ q.f1) = true then _ else _) = _
    rw [if_neg (fun h => by rw [h1, no_pair_shut] at h; cases h.2)]
    rfl
  | cons q r =>
    rw [List.map_cons, List.cons_append]
    show (if q.f2 + d = p.f2 + d + 1 ∧ hasB pairs4 (p.f1 ++ q.f1) = true then _ else _) = _
    rw [signP]
    by_cases h : q.f2 = p.f2 + 1 ∧ hasB pairs4 (p.f1 ++ q.f1) = true
    · rw [if_pos h, if_pos ⟨by omega, h.2⟩]
      rfl
    · rw [if_neg h, if_neg (fun q => h ⟨by omega, q.2⟩)]
      rfl
theorem num_emb (d : Int) (z : List Pt) (hz : ∃ q r, z = q :: r ∧ q.f0 = 3 ∧ q.f1 = sShut) (p : Pt) (r : List Pt) : numP (shP d p) (r.map (shP d) ++ z) = embR d z (numP p r) := by
  obtain ⟨u, w, rfl, h3, h1⟩ := hz
  have hu : ∀ l, pointB u l = false := fun l => by
    unfold pointB
    cases l with
    | nil => rfl
    | cons a l =>
      dsimp only
      rw [h1, decide_eq_false (by decide)]
      rfl
  match r with
  | [] =>
    cases w with
    | nil => rfl
    | cons v w =>
      show (if u.f2 = _ ∧ pointB u (v :: w) = true then _ else _) = _
      rw [if_neg (fun h => by rw [hu] at h; cases h.2)]
      rfl
  | [q] =>
    show (if q.f2 + d = p.f2 + d + p.f1.size ∧ pointB (shP d q) (u :: w) = true then _ else _) = _
    rw [if_neg (fun h => by
      have e : pointB (shP d q) (u :: w) = false := by
        unfold pointB
        dsimp only
        rw [h3]
        simp
      rw [e] at h
      cases h.2)]
    rfl
  | q :: q2 :: r =>
    show (if q.f2 + d = p.f2 + d + p.f1.size ∧ pointB (shP d q) (shP d q2 :: (r.map (shP d) ++ u :: w)) = true then _ else _) = _
    have e : pointB (shP d q) (shP d q2 :: (r.map (shP d) ++ u :: w)) = pointB q (q2 :: r) := by
      unfold pointB
      dsimp only
      have e1 : (shP d q2).f2 = q2.f2 + d := rfl
      have e2 : (shP d q).f2 = q.f2 + d := rfl
      have e3 : (q2.f2 + d == q.f2 + d + 1) = (q2.f2 == q.f2 + 1) := by
        rw [Bool.eq_iff_iff, beq_iff_eq, beq_iff_eq]
        omega
      rw [e1, e2, e3]
      rfl
    rw [e, numP]
    by_cases h : q.f2 = p.f2 + p.f1.size ∧ pointB q (q2 :: r) = true
    · rw [if_pos h, if_pos ⟨by omega, h.2⟩]
      rfl
    · rw [if_neg h, if_neg (fun q => h ⟨by omega, q.2⟩)]
      rfl
theorem token_emb (a s b : ByteArray) (hb : hasQ b = false) (z : List Pt) (hz : Behind (a.size + s.size : Nat) z) {p : Pt} {r l : List Pt} {t : Tk} (hp : PartIn s p) (h : tokenP s p r = some (.ok t l)) : tokenP (a ++ s ++ b) (shP a.size p) (r.map (shP a.size) ++ z) = some (.ok (shT a.size t) (l.map (shP a.size) ++ z)) := by
  unfold tokenP at h ⊢
  show (if p.f1 = sQuote then _ else if p.f0 = 1 then _ else if p.f0 = 2 then _ else _) = _
  by_cases c1 : p.f1 = sQuote
  · rw [if_pos c1] at h ⊢
    obtain ⟨q, hq, hR⟩ := Option.map_eq_some_iff.1 h
    cases q with
    | none => cases hR
    | some x =>
      obtain ⟨tx, k⟩ := x
      dsimp only at hR
      injection hR with hR1 hR2
      have h1 : p.f1.size = 1 := by rw [c1]; rfl
      unfold PartIn at hp
      have e := quoteL_emb a s b hb (s.size + 2) ((a ++ s ++ b).size + 2) [] (p.f2.toNat + 1) tx k (by simp; omega) (by omega) hq
      have ek : (shP a.size p).f2.toNat + 1 = a.size + (p.f2.toNat + 1) := by
        have : (shP a.size p).f2 = p.f2 + a.size := rfl
        omega
      rw [ek, e.1]
      show some (TRes.ok _ (behind ((a.size + k : Nat) : Int) (r.map (shP a.size) ++ z))) = _
      have eb := behind_emb a.size k r z (fun q hq => by have := hz.2 q hq; omega)
      rw [show ((a.size + k : Nat) : Int) = (k : Int) + (a.size : Int) by omega, eb, ← hR1, ← hR2]
      rfl
  rw [if_neg c1] at h ⊢
  by_cases c2 : p.f0 = 1
  · rw [if_pos c2] at h ⊢
    rw [num_emb _ z hz.1, Option.some.inj h]
    rfl
  rw [if_neg c2] at h ⊢
  by_cases c3 : p.f0 = 2
  · rw [if_pos c3] at h ⊢
    have e := name_emb a.size p.f2 z hz.1 r p.f1
    show some (TRes.ok ⟨1, lowS (nameL (p.f2 + a.size) p.f1 (r.map (shP a.size) ++ z)).1, p.f2 + a.size⟩ (nameL (p.f2 + a.size) p.f1 (r.map (shP a.size) ++ z)).2) = _
    rw [e]
    injection h with h
    injection h with h1 h2
    rw [← h1, ← h2]
    rfl
  · rw [if_neg c3] at h ⊢
    rw [sign_emb _ z hz.1, Option.some.inj h]
    rfl
theorem lex_emb (a s b : ByteArray) (hb : hasQ b = false) (z : List Pt) (hz : Behind (a.size + s.size : Nat) z) : ∀ (f : Nat) (acc : List Tk) (l : List Pt) (ts : List Tk), (∀ p, p ∈ l → PartIn s p) → lexL s f acc l = some (.toks ts) → ∃ ts0 g, ts = acc ++ ts0 ∧ g ≤ l.length ∧ ∀ f' acc', lexL (a ++ s ++ b) (f' + g) acc' (l.map (shP a.size) ++ z) = lexL (a ++ s ++ b) f' (acc' ++ ts0.map (shT a.size)) z
  | 0, acc, l, ts, hl, h => by cases h
  | f + 1, acc, [], ts, hl, h => by
    have e : acc = ts := by
      have h' : some (LexR.toks acc) = some (LexR.toks ts) := h
      injection h' with h'
      injection h' with h'
    exact ⟨[], 0, by rw [e, List.append_nil], Nat.le_refl _, fun f' acc' => by rw [List.map_nil, List.map_nil, List.append_nil]; rfl⟩
  | f + 1, acc, p :: r, ts, hl, h => by
    rw [lexL] at h
    cases hR : tokenP s p r with
    | none => rw [hR] at h; cases h
    | some R =>
      rw [hR] at h
      cases R with
      | bad why pos => cases h
      | ok t l =>
        have hm := token_mem hR
        have e1 := token_emb a s b hb z hz (hl p (by simp)) hR
        obtain ⟨ts0, g, e2, hg, e3⟩ := lex_emb a s b hb z hz f (acc ++ [t]) l ts (fun q hq => hl q (List.mem_cons_of_mem _ (hm.1 q hq))) h
        refine ⟨t :: ts0, g + 1, by rw [e2, List.append_assoc]; rfl, by rw [List.length_cons]; omega, fun f' acc' => ?_⟩
        rw [List.map_cons, List.cons_append, ← Nat.add_assoc, lexL, e1]
        show lexL (a ++ s ++ b) (f' + g) (acc' ++ [shT a.size t]) _ = _
        rw [e3, List.append_assoc]
        rfl
theorem lex_sign (S : ByteArray) (c : UInt8) (x : Int) (hc : c ≠ 60 ∧ c ≠ 62 ∧ c ≠ 58 ∧ c ≠ 39) (f : Nat) (acc : List Tk) (r : List Pt) : lexL S (f + 1) acc (⟨3, ⟨#[c]⟩, x⟩ :: r) = lexL S f (acc ++ [⟨3, ⟨#[c]⟩, x⟩]) r := by
  have e : tokenP S ⟨3, ⟨#[c]⟩, x⟩ r = some (.ok ⟨3, ⟨#[c]⟩, x⟩ r) := by
    unfold tokenP
    have hq : (⟨#[c]⟩ : ByteArray) ≠ sQuote := fun h => by
      have h' := congrArg (fun b : ByteArray => b.data.toList) h
      simp [sQuote] at h'
      exact hc.2.2.2 h'
    show (if (⟨#[c]⟩ : ByteArray) = sQuote then _ else if (3 : Int) = 1 then _ else if (3 : Int) = 2 then _ else _) = _
    rw [if_neg hq, if_neg (by decide), if_neg (by decide)]
    unfold signP
    cases r with
    | nil => rfl
    | cons q r =>
      dsimp only
      rw [if_neg (fun h => by rw [no_pair c q.f1 ⟨hc.1, hc.2.1, hc.2.2.1⟩] at h; cases h.2)]
  rw [lexL, e]
  rfl
end Go.Proofs.YtfgogfdbjbnlbaaDoor.PExpr
end
section
namespace Go.Proofs.YtfgogfdbjbnlbaaDoor.PExpr
open Go.RowKit Go.Proofs.YtfgogfdbjbnlbaaDoor.Utf Go.Proofs.YtfgogfdbjbnlbaaDoorW.PrintWords Go.Proofs.YtfgogfdbjbnlbaaDoorW.PrintLast Go.Proofs.YtfgogfdbjbnlbaaDoorW.PrintMore
set_option linter.unusedVariables false
set_option linter.unusedSimpArgs false
def kd (s : ByteArray) (p : Nat) : Int := kindR (Utf8.decode s p).1
def tx (s : ByteArray) (p : Nat) : ByteArray := s.extract p (p + (Utf8.decode s p).2)
def nx (s : ByteArray) (p : Nat) : Nat := p + (Utf8.decode s p).2
def nextL (s : ByteArray) (l : List S109) (last : Int) (p : Nat) : List S109 :=
  if kd s p = 0 then l else if kd s p = last ∧ kd s p ≠ 3 then l.set (l.length - 1) ⟨(lastP l).f0, (lastP l).f1 ++ tx s p, (lastP l).f2⟩ else l ++ [⟨kd s p, tx s p, (p : Int)⟩]
inductive Run (s : ByteArray) : List S109 → Int → Nat → List S109 → Prop
  | done (l : List S109) (last : Int) (p : Nat) (h : s.size ≤ p) : Run s l last p l
  | step (l : List S109) (last : Int) (p : Nat) (R : List S109) (h : p < s.size) (hb : ¬ Bad s p) (hk : kd s p ≠ 4) (hn : Run s (nextL s l last p) (kd s p) (nx s p) R) : Run s l last p R
inductive BadAt (s : ByteArray) : Nat → Nat → Prop
  | here (p : Nat) (h : p < s.size) (hb : Bad s p ∨ kd s p = 4) : BadAt s p p
  | step (p q : Nat) (h : p < s.size) (hb : ¬ Bad s p) (hk : kd s p ≠ 4) (hn : BadAt s (nx s p) q) : BadAt s p q
theorem nx_gt (s : ByteArray) (p : Nat) (h : p < s.size) : p < nx s p := by have := decode_width s p h; unfold nx; omega
theorem nx_le (s : ByteArray) (p : Nat) (h : p < s.size) : nx s p ≤ s.size := decode_end s p h
theorem run_or_bad (s : ByteArray) : ∀ d p, s.size - p = d → (∀ l last, ∃ R, Run s l last p R) ∨ ∃ q, BadAt s p q := by
  intro d
  induction d using Nat.strongRecOn with
  | _ d ih =>
    intro p hd
    by_cases h : p < s.size
    · by_cases hb : Bad s p ∨ kd s p = 4
      · exact .inr ⟨p, .here p h hb⟩
      · have h1 := nx_gt s p h
        rcases ih (s.size - nx s p) (by omega) (nx s p) rfl with h2 | ⟨q, h2⟩
        · refine .inl fun l last => ?_
          obtain ⟨R, hR⟩ := h2 (nextL s l last p) (kd s p)
          exact ⟨R, .step l last p R h (fun x => hb (.inl x)) (fun x => hb (.inr x)) hR⟩
        · exact .inr ⟨q, .step p q h (fun x => hb (.inl x)) (fun x => hb (.inr x)) h2⟩
    · exact .inl fun l last => ⟨l, .done l last p (by omega)⟩
structure Inv (l : List S109) (last : Int) (p : Nat) : Prop where
  some_ : last ≠ 0 → l.length ≠ 0
  small : ∀ x ∈ l, x.f1.size ≤ p
theorem lastP_memW (l : List S109) (h : l.length ≠ 0) : lastP l ∈ l := by
  unfold lastP rd_T109
  have e : ((l.length : Int) - 1).toNat = l.length - 1 := by omega
  rw [e, List.getD_eq_getElem?_getD, List.getElem?_eq_getElem (by omega)]
  exact List.getElem_mem _
theorem tx_size (s : ByteArray) (p : Nat) (h : p < s.size) : (tx s p).size = (Utf8.decode s p).2 := by
  have := decode_end s p h
  unfold tx
  rw [← len_list, ext_list, List.length_take, List.length_drop, len_list]
  omega
theorem tx_encode (s : ByteArray) (p : Nat) (h : p < s.size) (hb : ¬ Bad s p) : Utf8.encode (Utf8.decode s p).1 = tx s p := encode_decode s p h hb
theorem size_append (a b : ByteArray) : (a ++ b).size = a.size + b.size := by simp
theorem sp_step (s : ByteArray) (hs : s.size ≤ 2048) (d : Nat) (l : List S109) (last : Int) (p : Nat) (h : p < s.size) (hb : ¬ Bad s p) (hk : kd s p ≠ 4) (hI : Inv l last p) :
    spLoop s (d + 1) l last p = spLoop s d (nextL s l last p) (kd s p) (nx s p) ∧ Inv (nextL s l last p) (kd s p) (nx s p) := by
  have hnx := nx_gt s p h
  have htx := tx_size s p h
  have hnb : ¬ (((Utf8.decode s p).1 : Int) = 65533 ∧ wholeAt s p = false) := fun x => hb ((bad_iff s p h).mp x)
  have hle := nx_le s p h
  constructor
  · simp only [spLoop]
    rw [if_pos h, tx_encode s p h hb]
    show (if kd s p = 4 then _ else _) = _
    rw [if_neg hk, if_neg hnb]
    unfold nextL
    show (if kd s p = 0 then spLoop s d l 0 (nx s p) else if kd s p = last ∧ kd s p ≠ 3 then _ else spLoop s d (l ++ [⟨kd s p, tx s p, (p : Int)⟩]) (kd s p) (nx s p)) = _
    by_cases h0 : kd s p = 0
    · rw [if_pos h0, if_pos h0, h0]
    · rw [if_neg h0, if_neg h0]
      by_cases h1 : kd s p = last ∧ kd s p ≠ 3
      · rw [if_pos h1, if_pos h1]
        have hl := hI.some_ (by rw [← h1.1]; exact h0)
        have hsm := hI.small _ (lastP_memW l hl)
        rw [if_neg hl, if_pos (by unfold nx at hle; omega)]
        rfl
      · rw [if_neg h1, if_neg h1]
  · unfold nextL
    have hp : ∀ x ∈ l, x.f1.size ≤ nx s p := fun x hx => by have := hI.small x hx; omega
    by_cases h0 : kd s p = 0
    · rw [if_pos h0]
      exact ⟨fun h => absurd h0 h, hp⟩
    · rw [if_neg h0]
      by_cases h1 : kd s p = last ∧ kd s p ≠ 3
      · rw [if_pos h1]
        have hl := hI.some_ (by rw [← h1.1]; exact h0)
        have hsm := hI.small _ (lastP_memW l hl)
        refine ⟨fun _ => by rw [List.length_set]; exact hl, fun x hx => ?_⟩
        rcases List.mem_or_eq_of_mem_set hx with h2 | h2
        · exact hp x h2
        · subst h2
          show ((lastP l).f1 ++ tx s p).size ≤ _
          rw [size_append, htx]
          unfold nx
          omega
      · rw [if_neg h1]
        refine ⟨fun _ => by simp, fun x hx => ?_⟩
        rcases List.mem_append.mp hx with h2 | h2
        · exact hp x h2
        · obtain rfl := List.mem_singleton.mp h2
          show (tx s p).size ≤ _
          rw [htx]
          unfold nx
          omega
theorem sp_run (s : ByteArray) (hs : s.size ≤ 2048) {l : List S109} {last : Int} {p : Nat} {R : List S109} (h : Run s l last p R) : ∀ d, s.size - p < d → Inv l last p → spLoop s d l last p = some (R, 0, 0) := by
  induction h with
  | done l last p h =>
    intro d hd _
    obtain ⟨d, rfl⟩ : ∃ m, d = m + 1 := ⟨d - 1, by omega⟩
    simp only [spLoop]
    rw [if_neg (by omega)]
  | step l last p R h hb hk hn ih =>
    intro d hd hI
    obtain ⟨d, rfl⟩ : ∃ m, d = m + 1 := ⟨d - 1, by omega⟩
    obtain ⟨h1, h2⟩ := sp_step s hs d l last p h hb hk hI
    have h3 := nx_gt s p h
    rw [h1]
    exact ih d (by omega) h2
theorem sp_bad (s : ByteArray) (hs : s.size ≤ 2048) {p q : Nat} (h : BadAt s p q) : ∀ d l last, s.size - p < d → Inv l last p → spLoop s d l last p = some ([], (q : Int), 21) := by
  induction h with
  | here p h hb =>
    intro d l last hd _
    obtain ⟨d, rfl⟩ : ∃ m, d = m + 1 := ⟨d - 1, by omega⟩
    simp only [spLoop]
    rw [if_pos h]
    by_cases h4 : kd s p = 4
    · exact if_pos h4
    · rw [if_neg (show ¬ kindR (Utf8.decode s p).1 = 4 from h4)]
      exact if_pos ((bad_iff s p h).mpr (hb.resolve_right h4))
  | step p q h hb hk hn ih =>
    intro d l last hd hI
    obtain ⟨d, rfl⟩ : ∃ m, d = m + 1 := ⟨d - 1, by omega⟩
    obtain ⟨h1, h2⟩ := sp_step s hs d l last p h hb hk hI
    have h3 := nx_gt s p h
    rw [h1]
    exact ih d _ _ (by omega) h2
theorem kd_low (s : ByteArray) (p : Nat) (h : p < s.size) (h0 : bt s p < 128) : kd s p = kindR (bt s p) ∧ nx s p = p + 1 := by
  have hb : ¬ Bad s p := fun x => by have := x.1; omega
  rcases tells s p h with ⟨h1, h2, h3⟩ | ⟨h1, h2, h3⟩ | ⟨h1, h2, h3⟩ | ⟨h1, h2, h3⟩ | ⟨h1, h2, h3⟩
  · unfold kd nx; rw [h2, h3]; exact ⟨rfl, rfl⟩
  · have := h1.2.1; omega
  · have := h1.2.1; omega
  · have := h1.2.1; omega
  · exact absurd h1 hb
theorem split_run {s : ByteArray} {l : List S109} {x : Int} (h : word_Split.f s = some (l, x, 0)) : s.size ≤ 2048 ∧ Run s [] 0 0 l := by
  unfold word_Split.f at h
  by_cases hs : s.size > 2048
  · rw [if_pos hs] at h
    simp at h
  · rw [if_neg hs] at h
    refine ⟨by omega, ?_⟩
    have hI : Inv [] 0 0 := ⟨fun h => absurd rfl h, fun x hx => by cases hx⟩
    rcases run_or_bad s _ 0 rfl with hr | ⟨q, hq⟩
    · obtain ⟨R, hR⟩ := hr [] 0
      rw [sp_run s (by omega) hR _ (by omega) hI] at h
      obtain ⟨rfl, _⟩ := Prod.mk.inj (Option.some.inj h)
      exact hR
    · rw [sp_bad s (by omega) hq _ _ _ (by omega) hI] at h
      simp at h
theorem decode_same (s t : ByteArray) (p q : Nat) (hp : p < s.size) (hq : q < t.size) (hb : ¬ Bad s p) (hsz : s.size - p ≤ t.size - q) (h : ∀ i : Nat, p + i < s.size → bt t (q + i : Nat) = bt s (p + i : Nat)) :
    ¬ Bad t q ∧ (Utf8.decode t q).1 = (Utf8.decode s p).1 ∧ (Utf8.decode t q).2 = (Utf8.decode s p).2 := by
  have e0 := h 0 (by omega)
  rw [Nat.add_zero, Nat.add_zero] at e0
  have e1 := fun hh : p + 1 < s.size => h 1 hh
  have e2 := fun hh : p + 2 < s.size => h 2 hh
  have e3 := fun hh : p + 3 < s.size => h 3 hh
  have hT := tells t q hq
  rcases tells s p hp with ⟨h1, h2, h3⟩ | ⟨h1, h2, h3⟩ | ⟨h1, h2, h3⟩ | ⟨h1, h2, h3⟩ | ⟨h1, h2, h3⟩
  · have hnb : ¬ Bad t q := fun x => by have := x.1; omega
    refine ⟨hnb, ?_⟩
    rcases hT with ⟨g1, g2, g3⟩ | ⟨g1, g2, g3⟩ | ⟨g1, g2, g3⟩ | ⟨g1, g2, g3⟩ | ⟨g1, g2, g3⟩
    · exact ⟨by omega, by omega⟩
    · have := g1.2.1; omega
    · have := g1.2.1; omega
    · have := g1.2.1; omega
    · exact absurd g1 hnb
  · obtain ⟨a0, a1, a2, a3, a4⟩ := h1
    have e1 := e1 a0
    have two : Two t q := ⟨by omega, by omega, by omega, by omega, by omega⟩
    have hnb : ¬ Bad t q := fun x => x.2.1 two
    refine ⟨hnb, ?_⟩
    rcases hT with ⟨g1, g2, g3⟩ | ⟨g1, g2, g3⟩ | ⟨g1, g2, g3⟩ | ⟨g1, g2, g3⟩ | ⟨g1, g2, g3⟩
    · omega
    · exact ⟨by omega, by omega⟩
    · have := g1.2.1; omega
    · have := g1.2.1; omega
    · exact absurd g1 hnb
  · obtain ⟨a0, a1, a2, a3, a4, a5, a6, a7, a8⟩ := h1
    have e1 := e1 (by omega)
    have e2 := e2 a0
    have three : Three t q := ⟨by omega, by omega, by omega, by omega, by omega, by omega, by omega, fun e => by have := a7 (by omega); omega, fun e => by have := a8 (by omega); omega⟩
    have hnb : ¬ Bad t q := fun x => x.2.2.1 three
    refine ⟨hnb, ?_⟩
    rcases hT with ⟨g1, g2, g3⟩ | ⟨g1, g2, g3⟩ | ⟨g1, g2, g3⟩ | ⟨g1, g2, g3⟩ | ⟨g1, g2, g3⟩
    · omega
    · have := g1.2.2.1; omega
    · exact ⟨by omega, by omega⟩
    · have := g1.2.1; omega
    · exact absurd g1 hnb
  · obtain ⟨a0, a1, a2, a3, a4, a5, a6, a7, a8, a9, a10⟩ := h1
    have e1 := e1 (by omega)
    have e2 := e2 (by omega)
    have e3 := e3 a0
    have four : Four t q := ⟨by omega, by omega, by omega, by omega, by omega, by omega, by omega, by omega, by omega, fun e => by have := a9 (by omega); omega, fun e => by have := a10 (by omega); omega⟩
    have hnb : ¬ Bad t q := fun x => x.2.2.2 four
    refine ⟨hnb, ?_⟩
    rcases hT with ⟨g1, g2, g3⟩ | ⟨g1, g2, g3⟩ | ⟨g1, g2, g3⟩ | ⟨g1, g2, g3⟩ | ⟨g1, g2, g3⟩
    · omega
    · have := g1.2.2.1; omega
    · have := g1.2.2.1; omega
    · exact ⟨by omega, by omega⟩
    · exact absurd g1 hnb
  · exact absurd h1 hb
theorem bt_list (s : ByteArray) (i : Nat) : bt s (i : Int) = ((s.data.toList.getD i 0).toNat : Int) := by
  by_cases h : i < s.size
  · rw [bt_get s i h, List.getD_eq_getElem?_getD, List.getElem?_eq_getElem (by rw [len_list]; exact h)]
    rfl
  · unfold bt
    rw [dif_neg (by simpa using h), List.getD_eq_getElem?_getD, List.getElem?_eq_none (by rw [len_list]; omega)]
    rfl
theorem bt_left (a b : ByteArray) (i : Nat) (h : i < a.size) : bt (a ++ b) (i : Int) = bt a (i : Int) := by
  rw [bt_list, bt_list, ByteArray.data_append, Array.toList_append, List.getD_eq_getElem?_getD, List.getD_eq_getElem?_getD, List.getElem?_append_left (by rw [len_list]; exact h)]
theorem bt_right (a b : ByteArray) (i : Nat) : bt (a ++ b) ((a.size + i : Nat) : Int) = bt b (i : Int) := by
  rw [bt_list, bt_list, ByteArray.data_append, Array.toList_append, List.getD_eq_getElem?_getD, List.getD_eq_getElem?_getD, List.getElem?_append_right (by rw [len_list]; omega), len_list, Nat.add_sub_cancel_left]
theorem ext_left (a b : ByteArray) (i j : Nat) (h : j ≤ a.size) : (a ++ b).extract i j = a.extract i j := by
  apply ByteArray.ext
  apply Array.toList_inj.mp
  rw [ext_list, ext_list, ByteArray.data_append, Array.toList_append]
  by_cases hi : i ≤ a.size
  · rw [List.drop_append_of_le_length (by rw [len_list]; exact hi), List.take_append_of_le_length (by rw [List.length_drop, len_list]; omega)]
  · rw [show j - i = 0 by omega]; rfl
theorem ext_right (a b : ByteArray) (i j : Nat) : (a ++ b).extract (a.size + i) (a.size + j) = b.extract i j := by
  apply ByteArray.ext
  apply Array.toList_inj.mp
  rw [ext_list, ext_list, ByteArray.data_append, Array.toList_append, show a.size + j - (a.size + i) = j - i by omega, List.drop_append, List.drop_of_length_le (by rw [len_list]; omega), len_list, List.nil_append, Nat.add_sub_cancel_left]
theorem run_left (a x : ByteArray) {L : List S109} {last : Int} {p : Nat} {R Q : List S109} (h : Run a L last p R) (hp : p ≤ a.size) (hc : ∀ last, Run (a ++ x) R last a.size Q) : Run (a ++ x) L last p Q := by
  induction h with
  | done l last p h =>
    obtain rfl : p = a.size := by omega
    exact hc last
  | step l last p R h hb hk hn ih =>
    have hsz : (a ++ x).size = a.size + x.size := by simp
    obtain ⟨g1, g2, g3⟩ := decode_same a (a ++ x) p p h (by omega) hb (by omega) (fun i hi => bt_left a x (p + i) hi)
    have hle := nx_le a p h
    have ek : kd (a ++ x) p = kd a p := by unfold kd; rw [g2]
    have en : nx (a ++ x) p = nx a p := by unfold nx; rw [g3]
    have et : tx (a ++ x) p = tx a p := by
      unfold tx
      rw [g3]
      exact ext_left a x _ _ hle
    have eN : nextL (a ++ x) l last p = nextL a l last p := by unfold nextL; rw [ek, et]
    refine .step l last p Q (by omega) g1 (by rw [ek]; exact hk) ?_
    rw [eN, ek, en]
    exact ih hle hc
theorem lastP_right (l m : List S109) (h : m.length ≠ 0) : lastP (l ++ m) = lastP m := by
  unfold lastP rd_T109
  have e1 : (((l ++ m).length : Int) - 1).toNat = l.length + (m.length - 1) := by rw [List.length_append]; omega
  have e2 : ((m.length : Int) - 1).toNat = m.length - 1 := by omega
  rw [e1, e2, List.getD_eq_getElem?_getD, List.getD_eq_getElem?_getD, List.getElem?_append_right (by omega), Nat.add_sub_cancel_left]
theorem lastP_map (m : List S109) (d : Int) (h : m.length ≠ 0) : lastP (m.map (shP d)) = shP d (lastP m) := by
  unfold lastP rd_T109
  have e2 : ((m.length : Int) - 1).toNat = m.length - 1 := by omega
  rw [List.length_map, e2, List.getD_eq_getElem?_getD, List.getD_eq_getElem?_getD, List.getElem?_map, List.getElem?_eq_getElem (by omega)]
  rfl
theorem run_right (a b : ByteArray) (l : List S109) {L : List S109} {last : Int} {p : Nat} {R : List S109} (h : Run b L last p R) (hp : p ≤ b.size) (hI : last ≠ 0 → L.length ≠ 0) : Run (a ++ b) (l ++ L.map (shP a.size)) last (a.size + p) (l ++ R.map (shP a.size)) := by
  have hsz : (a ++ b).size = a.size + b.size := by simp
  induction h with
  | done L last p h => exact .done _ _ _ (by omega)
  | step L last p R h hb hk hn ih =>
    obtain ⟨g1, g2, g3⟩ := decode_same b (a ++ b) p (a.size + p) h (by omega) hb (by omega) (fun i hi => by rw [Nat.add_assoc]; exact bt_right a b (p + i))
    have hle := nx_le b p h
    have ek : kd (a ++ b) (a.size + p) = kd b p := by unfold kd; rw [g2]
    have en : nx (a ++ b) (a.size + p) = a.size + nx b p := by unfold nx; rw [g3]; omega
    have et : tx (a ++ b) (a.size + p) = tx b p := by
      unfold tx
      rw [g3, Nat.add_assoc]
      exact ext_right a b _ _
    have eI : kd b p ≠ 0 → (nextL b L last p).length ≠ 0 := by
      intro h0
      unfold nextL
      rw [if_neg h0]
      split
      · rename_i h1
        rw [List.length_set]
        exact hI (by rw [← h1.1]; exact h0)
      · simp
    have eN : nextL (a ++ b) (l ++ L.map (shP a.size)) last (a.size + p) = l ++ (nextL b L last p).map (shP a.size) := by
      unfold nextL
      rw [ek, et]
      by_cases h0 : kd b p = 0
      · rw [if_pos h0, if_pos h0]
      · rw [if_neg h0, if_neg h0]
        by_cases h1 : kd b p = last ∧ kd b p ≠ 3
        · rw [if_pos h1, if_pos h1]
          have hL := hI (by rw [← h1.1]; exact h0)
          rw [lastP_right _ _ (by rw [List.length_map]; exact hL), lastP_map _ _ hL, List.length_append, List.length_map, List.set_append_right _ _ (by omega), show l.length + L.length - 1 - l.length = L.length - 1 by omega]
          congr 1
          rw [List.map_set]
          rfl
        · rw [if_neg h1, if_neg h1, List.map_append, List.append_assoc]
          congr 2
          show [(⟨kd b p, tx b p, ((a.size + p : Nat) : Int)⟩ : S109)] = [(⟨kd b p, tx b p, (p : Int) + (a.size : Int)⟩ : S109)]
          rw [Int.natCast_add, Int.add_comm]
    refine .step _ last _ _ (by omega) g1 (by rw [ek]; exact hk) ?_
    rw [eN, ek, en]
    exact ih hle eI
end Go.Proofs.YtfgogfdbjbnlbaaDoor.PExpr
end
section
namespace Go.Proofs.YtfgogfdbjbnlbaaDoor.PExpr
open Go.RowKit Go.Proofs.YtfgogfdbjbnlbaaDoor.Utf Go.Proofs.YtfgogfdbjbnlbaaDoorW.PrintWords Go.Proofs.YtfgogfdbjbnlbaaDoorW.PrintLast Go.Proofs.YtfgogfdbjbnlbaaDoorW.PrintMore
set_option linter.unusedVariables false
set_option linter.unusedSimpArgs false
theorem next_swap (S : ByteArray) (l : List Pt) (p : Nat) : nextL S l 3 p = nextL S l 0 p := by
  unfold nextL
  by_cases h0 : kd S p = 0
  · rw [if_pos h0, if_pos h0]
  · rw [if_neg h0, if_neg h0, if_neg (fun h => h.2 h.1), if_neg (fun h => h0 h.1)]
theorem run_swap {S : ByteArray} {l R : List Pt} {p : Nat} (h : Run S l 0 p R) : Run S l 3 p R := by
  cases h with
  | done l last p h => exact .done _ _ _ h
  | step l last p R h hb hk hn => exact .step _ _ _ _ h hb hk (by rw [next_swap]; exact hn)
theorem append_assoc3 (a b c : ByteArray) : a ++ b ++ c = a ++ (b ++ c) := by
  apply ByteArray.ext
  simp
theorem byte_at (A x : ByteArray) (c : UInt8) (hc : c.toNat < 128) : A.size < (A ++ ((⟨#[c]⟩ : ByteArray) ++ x)).size ∧ ¬ Bad (A ++ ((⟨#[c]⟩ : ByteArray) ++ x)) A.size ∧ kd (A ++ ((⟨#[c]⟩ : ByteArray) ++ x)) A.size = kindR (c.toNat : Int) ∧ nx (A ++ ((⟨#[c]⟩ : ByteArray) ++ x)) A.size = A.size + 1 ∧ tx (A ++ ((⟨#[c]⟩ : ByteArray) ++ x)) A.size = ⟨#[c]⟩ := by
  have hlt : A.size < (A ++ ((⟨#[c]⟩ : ByteArray) ++ x)).size := by
    have e : (⟨#[c]⟩ : ByteArray).size = 1 := rfl
    rw [ByteArray.size_append, ByteArray.size_append, e]
    omega
  have hbt : bt (A ++ ((⟨#[c]⟩ : ByteArray) ++ x)) (A.size : Nat) = (c.toNat : Int) := by
    have e := bt_right A ((⟨#[c]⟩ : ByteArray) ++ x) 0
    rw [Nat.add_zero] at e
    rw [e, bt_list, ByteArray.data_append, Array.toList_append]
    rfl
  obtain ⟨h1, h2⟩ := kd_low _ A.size hlt (by omega)
  refine ⟨hlt, fun h => by have := h.1; omega, by rw [h1, hbt], h2, ?_⟩
  have h3 : A.size + (Utf8.decode (A ++ ((⟨#[c]⟩ : ByteArray) ++ x)) A.size).2 = A.size + 1 := h2
  unfold tx
  rw [h3]
  have e := ext_right A ((⟨#[c]⟩ : ByteArray) ++ x) 0 1
  rw [Nat.add_zero] at e
  rw [e, ext_left _ _ _ _ (Nat.le_refl 1)]
  rfl
theorem run_sign (A x : ByteArray) (c : UInt8) (hc : c.toNat < 128) (hk : kindR (c.toNat : Int) = 3) {R m : List Pt} (hA : Run A [] 0 0 R) (hx : Run x [] 0 0 m) : Run (A ++ ((⟨#[c]⟩ : ByteArray) ++ x)) [] 0 0 (R ++ (⟨3, ⟨#[c]⟩, A.size⟩ :: m.map (shP (A.size + 1 : Nat)))) := by
  refine run_left A _ hA (Nat.zero_le _) (fun last => ?_)
  obtain ⟨h1, h2, h3, h4, h5⟩ := byte_at A x c hc
  rw [hk] at h3
  have hN : nextL (A ++ ((⟨#[c]⟩ : ByteArray) ++ x)) R last A.size = R ++ [⟨3, ⟨#[c]⟩, A.size⟩] := by
    unfold nextL
    rw [h3, if_neg (by decide), if_neg (fun h => h.2 rfl), h5]
  refine .step _ _ _ _ h1 h2 (by rw [h3]; decide) ?_
  rw [hN, h3, h4]
  refine run_swap ?_
  have h6 := run_right (A ++ (⟨#[c]⟩ : ByteArray)) x (R ++ [⟨3, ⟨#[c]⟩, A.size⟩]) hx (Nat.zero_le _) (fun h => absurd rfl h)
  have e : (A ++ (⟨#[c]⟩ : ByteArray)).size = A.size + 1 := by rw [ByteArray.size_append]; rfl
  rw [e, append_assoc3, List.map_nil, List.append_nil, List.append_assoc, Nat.add_zero] at h6
  exact h6
def noS : ByteArray := ⟨#[]⟩
theorem run_no : Run noS [] 0 0 [] := .done _ _ _ (Nat.le_refl _)
theorem noS_left (a : ByteArray) : noS ++ a = a := by
  apply ByteArray.ext
  simp [noS]
theorem noS_right (a : ByteArray) : a ++ noS = a := by
  apply ByteArray.ext
  simp [noS]
theorem split_of_run {s : ByteArray} {l : List Pt} (hs : s.size ≤ 2048) (h : Run s [] 0 0 l) : word_Split.f s = some (l, 0, 0) := by
  unfold word_Split.f
  rw [if_neg (by omega)]
  exact sp_run s hs h _ (by omega) ⟨fun h => absurd rfl h, fun x hx => by cases hx⟩
theorem run_first (x : ByteArray) (c : UInt8) (hc : c.toNat < 128) (hk : kindR (c.toNat : Int) = 3) {m : List Pt} (hx : Run x [] 0 0 m) : Run ((⟨#[c]⟩ : ByteArray) ++ x) [] 0 0 (⟨3, ⟨#[c]⟩, 0⟩ :: m.map (shP 1)) := by
  have h := run_sign noS x c hc hk run_no hx
  rw [noS_left, List.nil_append] at h
  exact h
theorem run_end (A : ByteArray) (c : UInt8) (hc : c.toNat < 128) (hk : kindR (c.toNat : Int) = 3) {R : List Pt} (hA : Run A [] 0 0 R) : Run (A ++ (⟨#[c]⟩ : ByteArray)) [] 0 0 (R ++ [⟨3, ⟨#[c]⟩, A.size⟩]) := by
  have h := run_sign A noS c hc hk hA run_no
  rw [noS_right, List.map_nil] at h
  exact h
theorem run_brackets {s : ByteArray} {l : List Pt} (h : Run s [] 0 0 l) : Run (sOpen ++ s ++ sShut) [] 0 0 (⟨3, sOpen, 0⟩ :: (l.map (shP 1) ++ [⟨3, sShut, s.size + 1⟩])) := by
  have h1 := run_first _ 40 (by decide) (by decide) (run_end s 41 (by decide) (by decide) h)
  rw [List.map_append] at h1
  rw [append_assoc3]
  exact h1
end Go.Proofs.YtfgogfdbjbnlbaaDoor.PExpr
end
section
namespace Go.Proofs.YtfgogfdbjbnlbaaDoor.PExpr
open Go.RowKit Go.Proofs.YtfgogfdbjbnlbaaDoorW.PrintWords Go.Proofs.YtfgogfdbjbnlbaaDoorW.PrintLast Go.Proofs.YtfgogfdbjbnlbaaDoorW.PrintMore
set_option linter.unusedVariables false
set_option linter.unusedSimpArgs false
mutual
/-- A node without its places. -/
def strip : Nd → Nd
  | ⟨k, t, l, _⟩ => ⟨k, t, strips l, 0⟩
def strips : List Nd → List Nd
  | [] => []
  | n :: l => strip n :: strips l
end
inductive Sm (z : List Tk) : List Tk → List Tk → Prop
  | fin (t : Tk) (h : t.f0 = 4) : Sm z [t] z
  | more (t t' : Tk) (r r' : List Tk) (h : t.f0 ≠ 4) (hk : t'.f0 = t.f0) (ht : t'.f1 = t.f1) (hr : Sm z r r') : Sm z (t :: r) (t' :: r')
def Shuts (z : List Tk) : Prop := ∃ u r, z = u :: r ∧ ∀ ss, hasB ss sShut = false → isIt ss u = false
def SimR (z : List Tk) : Res → Res → Prop
  | .ok n r, .ok n' r' => strip n = strip n' ∧ Sm z r r'
  | .ok _ _, .bad why _ => why = 31
  | .bad _ _, _ => True
def SimO (z : List Tk) (a b : Option Res) : Prop := ∀ x y, a = some x → b = some y → SimR z x y
theorem SimR.bad31 (z : List Tk) (x : Res) (p : Int) : SimR z x (.bad 31 p) := by cases x <;> simp [SimR]
theorem SimO.no (z : List Tk) (b : Option Res) : SimO z none b := fun x y hx => by cases hx
theorem SimO.no' (z : List Tk) (a : Option Res) : SimO z a none := fun x y _ hy => by cases hy
theorem SimO.bad (z : List Tk) (w p : Int) (b : Option Res) : SimO z (some (.bad w p)) b := fun x y hx hy => by
  cases hx
  trivial
theorem SimO.deep (z : List Tk) (a : Option Res) (p : Int) : SimO z a (some (.bad 31 p)) := fun x y hx hy => by
  cases hy
  exact SimR.bad31 z x p
theorem SimO.ok {z : List Tk} {n n' : Nd} {r r' : List Tk} (h : strip n = strip n') (hr : Sm z r r') : SimO z (some (.ok n r)) (some (.ok n' r')) := fun x y hx hy => by
  cases hx
  cases hy
  exact ⟨h, hr⟩
theorem SimO.next {z : List Tk} {a b : Option Res} {f g : Nd → List Tk → Option Res} (h : SimO z a b) (hf : ∀ n n' r r', strip n = strip n' → Sm z r r' → SimO z (f n r) (g n' r')) : SimO z (a.bind fun n => n.then f) (b.bind fun n => n.then g) := by
  intro x y hx hy
  cases a with
  | none => cases hx
  | some a =>
    cases b with
    | none => cases hy
    | some b =>
      have q := h a b rfl rfl
      cases a with
      | bad w p =>
        cases hx
        trivial
      | ok n r =>
        cases b with
        | bad w p =>
          cases hy
          have q' : w = 31 := q
          subst q'
          exact SimR.bad31 z x p
        | ok n' r' => exact hf n n' r r' q.1 q.2 x y hx hy
theorem SimO.ite {z : List Tk} {c c' : Prop} [Decidable c] [Decidable c'] {a b : Option Res} (h : SimO z a b) : SimO z (if c then none else a) (if c' then none else b) := by
  by_cases hc : c
  · rw [if_pos hc]
    exact .no z _
  · by_cases hc' : c'
    · rw [if_pos hc']
      exact .no' z _
    · rw [if_neg hc, if_neg hc']
      exact h
theorem isIt_alike {ss : List ByteArray} {t t' : Tk} (hk : t'.f0 = t.f0) (ht : t'.f1 = t.f1) : isIt ss t' = isIt ss t := by
  unfold isIt
  rw [hk, ht]
theorem isIt_last {ss : List ByteArray} {t : Tk} (h : t.f0 = 4) : isIt ss t = false := by
  unfold isIt
  rw [h]
  rfl
theorem isIt_shut {ss : List ByteArray} {u : Tk} (hu : u.f1 = sShut) (hs : hasB ss sShut = false) : isIt ss u = false := by
  unfold isIt
  rw [hu, hs, Bool.and_false]
theorem strip2 {k : Int} {s : ByteArray} {n m n' m' : Nd} {p p' : Int} (hn : strip n = strip n') (hm : strip m = strip m') : strip ⟨k, s, [n, m], p⟩ = strip ⟨k, s, [n', m'], p'⟩ := by
  simp only [strip, strips, hn, hm]
theorem strip1 {k : Int} {s : ByteArray} {n n' : Nd} {p p' : Int} (hn : strip n = strip n') : strip ⟨k, s, [n], p⟩ = strip ⟨k, s, [n'], p'⟩ := by
  simp only [strip, strips, hn]
theorem strip0 {k : Int} {s : ByteArray} {p p' : Int} : strip ⟨k, s, [], p⟩ = strip ⟨k, s, [], p'⟩ := by
  simp only [strip, strips]
theorem strips_snoc {l l' : List Nd} {n n' : Nd} (h : strips l = strips l') (hn : strip n = strip n') : strips (l ++ [n]) = strips (l' ++ [n']) := by
  have e : ∀ (l : List Nd) (n : Nd), strips (l ++ [n]) = strips l ++ [strip n] := by
    intro l n
    induction l with
    | nil => rfl
    | cons a l ih =>
      show strip a :: strips (l ++ [n]) = strip a :: strips l ++ [strip n]
      rw [ih]
      rfl
  rw [e, e, h, hn]
section
variable {z : List Tk}
theorem rowL_sim (hz : Shuts z) {part part' : List Tk → Option Res} {ss : List ByteArray} (hp : ∀ l l', Sm z l l' → SimO z (part l) (part' l')) (hs : hasB ss sShut = false) : ∀ (k k' : Nat) (n n' : Nd) (l l' : List Tk), strip n = strip n' → Sm z l l' → SimO z (rowL part ss k n l) (rowL part' ss k' n' l')
  | 0, k', n, n', l, l', _, _ => .no z _
  | k + 1, 0, n, n', l, l', _, _ => .no' z _
  | k + 1, k' + 1, n, n', _, _, hn, .fin t h => by
    have hF : Sm z [t] z := .fin t h
    obtain ⟨u, r, rfl, hst⟩ := hz
    unfold rowL
    rw [isIt_last h, hst _ hs, if_neg (by simp), if_neg (by simp)]
    exact .ok hn hF
  | k + 1, k' + 1, n, n', _, _, hn, .more t t' r r' h hk ht hr => by
    unfold rowL
    rw [isIt_alike hk ht]
    by_cases hi : isIt ss t = true
    · rw [if_pos hi, if_pos hi]
      refine .ite ((hp r r' hr).next fun m m' l l' hm hl => ?_)
      exact rowL_sim hz hp hs k k' _ _ l l' (by rw [ht]; exact strip2 hn hm) hl
    · rw [if_neg hi, if_neg hi]
      exact .ok hn (.more t t' r r' h hk ht hr)
theorem rowP_sim (hz : Shuts z) {part part' : List Tk → Option Res} {ss : List ByteArray} (hp : ∀ l l', Sm z l l' → SimO z (part l) (part' l')) (hs : hasB ss sShut = false) (k k' : Nat) (l l' : List Tk) (h : Sm z l l') : SimO z (rowP part ss k l) (rowP part' ss k' l') := by
  unfold rowP
  exact (hp l l' h).next fun n n' r r' hn hr => rowL_sim hz hp hs k k' n n' r r' hn hr
theorem prefixP_sim (hz : Shuts z) {again other again' other' : Int → List Tk → Option Res} {kind : Int} {s : ByteArray} (d d' : Int) (ha : ∀ d d' l l', Sm z l l' → SimO z (again d l) (again' d' l')) (ho : ∀ l l', Sm z l l' → SimO z (other d l) (other' d' l')) (hs : hasB [s] sShut = false) (l l' : List Tk) (h : Sm z l l') : SimO z (prefixP again other kind s d l) (prefixP again' other' kind s d' l') := by
  cases h with
  | fin t h =>
    have hF : Sm z [t] z := .fin t h
    obtain ⟨u, r, rfl, hst⟩ := hz
    unfold prefixP
    dsimp only
    rw [isIt_last h, hst _ hs, if_neg (by simp), if_neg (by simp)]
    exact ho _ _ hF
  | more t t' r r' h hk ht hr =>
    have hF : Sm z (t :: r) (t' :: r') := .more t t' r r' h hk ht hr
    unfold prefixP
    dsimp only
    rw [isIt_alike hk ht]
    by_cases hi : isIt [s] t = true
    · rw [if_pos hi, if_pos hi]
      refine .ite ?_
      by_cases hd : d + 1 > 20
      · rw [if_pos hd]
        exact .bad z _ _ _
      · rw [if_neg hd]
        by_cases hd' : d' + 1 > 20
        · rw [if_pos hd']
          exact .deep z _ _
        · rw [if_neg hd']
          exact (ha _ _ r r' hr).next fun m m' l l' hm hl => .ok (strip1 hm) hl
    · rw [if_neg hi, if_neg hi]
      exact ho _ _ hF
theorem cmpP_sim (hz : Shuts z) {sum sum' : List Tk → Option Res} (hp : ∀ l l', Sm z l l' → SimO z (sum l) (sum' l')) (l l' : List Tk) (h : Sm z l l') : SimO z (cmpP sum l) (cmpP sum' l') := by
  unfold cmpP
  refine (hp l l' h).next fun n n' q q' hn hq => ?_
  clear h
  cases hq with
  | fin t h =>
    have hF : Sm z [t] z := .fin t h
    obtain ⟨u, r, rfl, hst⟩ := hz
    dsimp only
    rw [isIt_last h, hst _ (by decide), if_neg (by simp), if_neg (by simp)]
    exact .ok hn hF
  | more t t' r r' h hk ht hr =>
    dsimp only
    rw [isIt_alike hk ht]
    by_cases hi : isIt cmps t = true
    · rw [if_pos hi, if_pos hi]
      refine .ite ((hp r r' hr).next fun m m' l l' hm hl => ?_)
      rw [ht]
      exact .ok (strip2 hn hm) hl
    · rw [if_neg hi, if_neg hi]
      exact .ok hn (.more t t' r r' h hk ht hr)
theorem wantP_sim {s : ByteArray} {f f' : List Tk → Option Res} (hf : ∀ r r', Sm z r r' → SimO z (f r) (f' r')) (l l' : List Tk) (h : Sm z l l') : SimO z (wantP s l f) (wantP s l' f') := by
  cases h with
  | fin t h =>
    unfold wantP
    dsimp only
    rw [isIt_last h, if_neg (by simp)]
    exact .bad z _ _ _
  | more t t' r r' h hk ht hr =>
    unfold wantP
    dsimp only
    rw [isIt_alike hk ht]
    by_cases hi : isIt [s] t = true
    · rw [if_pos hi, if_pos hi]
      exact .ite (hf r r' hr)
    · rw [if_neg hi, if_neg hi]
      exact .bad z _ _ _
theorem zoneL_sim (hz : Shuts z) {cast cast' : List Tk → Option Res} (hp : ∀ l l', Sm z l l' → SimO z (cast l) (cast' l')) : ∀ (k k' : Nat) (n n' : Nd) (l l' : List Tk), strip n = strip n' → Sm z l l' → SimO z (zoneL cast k n l) (zoneL cast' k' n' l')
  | 0, k', n, n', l, l', _, _ => .no z _
  | k + 1, 0, n, n', l, l', _, _ => .no' z _
  | k + 1, k' + 1, n, n', _, _, hn, .fin t h => by
    have hF : Sm z [t] z := .fin t h
    obtain ⟨u, r, rfl, hst⟩ := hz
    unfold zoneL
    rw [isIt_last h, hst _ (by decide), if_neg (by simp), if_neg (by simp)]
    exact .ok hn hF
  | k + 1, k' + 1, n, n', _, _, hn, .more t t' r r' h hk ht hr => by
    unfold zoneL
    rw [isIt_alike hk ht]
    by_cases hi : isIt [sAt] t = true
    · rw [if_pos hi, if_pos hi]
      refine .ite (wantP_sim (fun r1 r1' h1 => wantP_sim (fun r2 r2' h2 => (hp r2 r2' h2).next fun m m' l l' hm hl => ?_) _ _ h1) _ _ hr)
      exact zoneL_sim hz hp k k' _ _ l l' (strip2 hn hm) hl
    · rw [if_neg hi, if_neg hi]
      exact .ok hn (.more t t' r r' h hk ht hr)
theorem zoneP_sim (hz : Shuts z) {cast cast' : List Tk → Option Res} (hp : ∀ l l', Sm z l l' → SimO z (cast l) (cast' l')) (k k' : Nat) (l l' : List Tk) (h : Sm z l l') : SimO z (zoneP cast k l) (zoneP cast' k' l') := by
  unfold zoneP
  exact (hp l l' h).next fun n n' r r' hn hr => zoneL_sim hz hp k k' n n' r r' hn hr
theorem takeP_sim {f f' : Tk → List Tk → Option Res} (h4 : ∀ t, t.f0 = 4 → ∃ w p, f t [t] = some (.bad w p)) (hf : ∀ t t' r r', t.f0 ≠ 4 → t'.f0 = t.f0 → t'.f1 = t.f1 → Sm z r r' → SimO z (f t r) (f' t' r')) (l l' : List Tk) (h : Sm z l l') : SimO z (takeP l f) (takeP l' f') := by
  cases h with
  | fin t h =>
    unfold takeP
    dsimp only
    rw [if_pos h]
    obtain ⟨w, p, e⟩ := h4 t h
    rw [e]
    exact .bad z _ _ _
  | more t t' r r' h hk ht hr =>
    unfold takeP
    dsimp only
    rw [if_neg h, if_neg (show ¬ t'.f0 = 4 by rw [hk]; exact h)]
    exact .ite (hf t t' r r' h hk ht hr)
theorem castL_sim (hz : Shuts z) : ∀ (k k' : Nat) (n n' : Nd) (l l' : List Tk), strip n = strip n' → Sm z l l' → SimO z (castL k n l) (castL k' n' l')
  | 0, k', n, n', l, l', _, _ => .no z _
  | k + 1, 0, n, n', l, l', _, _ => .no' z _
  | k + 1, k' + 1, n, n', _, _, hn, .fin t h => by
    have hF : Sm z [t] z := .fin t h
    obtain ⟨u, r, rfl, hst⟩ := hz
    unfold castL
    rw [isIt_last h, hst _ (by decide), if_neg (by simp), if_neg (by simp)]
    exact .ok hn hF
  | k + 1, k' + 1, n, n', _, _, hn, .more t t' r r' h hk ht hr => by
    unfold castL
    rw [isIt_alike hk ht]
    by_cases hi : isIt [sCast] t = true
    · rw [if_pos hi, if_pos hi]
      refine .ite (takeP_sim (fun u hu => ⟨_, _, if_pos (Or.inl (by omega))⟩) (fun u u' r1 r1' hu huk hut h1 => ?_) _ _ hr)
      rw [huk, hut]
      by_cases hc : u.f0 ≠ 1 ∨ hasB kept8 u.f1 = true
      · rw [if_pos hc]
        exact .bad z _ _ _
      · rw [if_neg hc, if_neg hc]
        exact castL_sim hz k k' _ _ r1 r1' (strip1 hn) h1
    · rw [if_neg hi, if_neg hi]
      exact .ok hn (.more t t' r r' h hk ht hr)
theorem castP_sim (hz : Shuts z) {prim prim' : List Tk → Option Res} (hp : ∀ l l', Sm z l l' → SimO z (prim l) (prim' l')) (k k' : Nat) (l l' : List Tk) (h : Sm z l l') : SimO z (castP prim k l) (castP prim' k' l') := by
  unfold castP
  exact (hp l l' h).next fun n n' r r' hn hr => castL_sim hz k k' n n' r r' hn hr
theorem argsL_sim {part part' : List Tk → Option Res} (hp : ∀ l l', Sm z l l' → SimO z (part l) (part' l')) {f f' : List Nd → List Tk → Option Res} (hf : ∀ ns ns' r r', strips ns = strips ns' → Sm z r r' → SimO z (f ns r) (f' ns' r')) : ∀ (k k' : Nat) (ns ns' : List Nd) (l l' : List Tk), strips ns = strips ns' → Sm z l l' → SimO z (argsL part k ns l f) (argsL part' k' ns' l' f')
  | 0, k', n, n', l, l', _, _ => .no z _
  | k + 1, 0, n, n', l, l', _, _ => .no' z _
  | k + 1, k' + 1, n, n', _, _, hn, .fin t h => by
    unfold argsL
    rw [isIt_last h, if_neg (by simp)]
    unfold wantP
    dsimp only
    rw [isIt_last h, if_neg (by simp)]
    exact .bad z _ _ _
  | k + 1, k' + 1, n, n', _, _, hn, .more t t' r r' h hk ht hr => by
    unfold argsL
    rw [isIt_alike hk ht]
    by_cases hi : isIt [sComma] t = true
    · rw [if_pos hi, if_pos hi]
      refine .ite ((hp r r' hr).next fun m m' l l' hm hl => ?_)
      exact argsL_sim hp hf k k' _ _ l l' (strips_snoc hn hm) hl
    · rw [if_neg hi, if_neg hi]
      exact wantP_sim (fun r r' hr => hf _ _ r r' hn hr) _ _ (.more t t' r r' h hk ht hr)
theorem argsP_sim {part part' : List Tk → Option Res} (hl4 : ∀ t, t.f0 = 4 → ∀ x, part [t] = some x → ∃ w p, x = .bad w p) (hp : ∀ l l', Sm z l l' → SimO z (part l) (part' l')) {f f' : List Nd → List Tk → Option Res} (hf : ∀ ns ns' r r', strips ns = strips ns' → Sm z r r' → SimO z (f ns r) (f' ns' r')) (k k' : Nat) (l l' : List Tk) (h : Sm z l l') : SimO z (argsP part k l f) (argsP part' k' l' f') := by
  cases h with
  | fin t h =>
    unfold argsP
    dsimp only
    rw [isIt_last h, if_neg (by simp)]
    intro x y hx hy
    cases hq : part [t] with
    | none => rw [hq] at hx; cases hx
    | some q =>
      obtain ⟨w, p, rfl⟩ := hl4 t h q hq
      rw [hq] at hx
      cases hx
      trivial
  | more t t' r r' h hk ht hr =>
    have hF : Sm z (t :: r) (t' :: r') := .more t t' r r' h hk ht hr
    unfold argsP
    dsimp only
    rw [isIt_alike hk ht]
    by_cases hi : isIt [sShut] t = true
    · rw [if_pos hi, if_pos hi]
      exact .ite (hf _ _ r r' rfl hr)
    · rw [if_neg hi, if_neg hi]
      exact (hp _ _ hF).next fun m m' l l' hm hl => argsL_sim hp hf k k' _ _ l l' (by simp only [strips, hm]) hl
theorem namedP_sim {or or' : Int → List Tk → Option Res} (hl4 : ∀ d t, t.f0 = 4 → ∀ x, or d [t] = some x → ∃ w p, x = .bad w p) (hp : ∀ d d' l l', Sm z l l' → SimO z (or d l) (or' d' l')) (k k' : Nat) (d d' : Int) (t t' : Tk) (ht : t'.f1 = t.f1) (l l' : List Tk) (h : Sm z l l') : SimO z (namedP or k d t l) (namedP or' k' d' t' l') := by
  have hw : SimO z (wantP sOpen l fun l => if d + 1 > 20 then some (.bad 31 t.f2) else argsP (or (d + 1)) k l fun ns l => some (.ok ⟨9, t.f1, ns, t.f2⟩ l)) (wantP sOpen l' fun l => if d' + 1 > 20 then some (.bad 31 t'.f2) else argsP (or' (d' + 1)) k' l fun ns l => some (.ok ⟨9, t'.f1, ns, t'.f2⟩ l)) := by
    refine wantP_sim (fun r r' hr => ?_) l l' h
    by_cases hd : d + 1 > 20
    · rw [if_pos hd]
      exact .bad z _ _ _
    · rw [if_neg hd]
      by_cases hd' : d' + 1 > 20
      · rw [if_pos hd']
        exact .deep z _ _
      · rw [if_neg hd']
        exact argsP_sim (hl4 _) (hp _ _) (fun ns ns' r r' hn hr => .ok (by simp only [strip, hn, ht]) hr) k k' r r' hr
  cases h with
  | fin u h =>
    unfold namedP
    dsimp only
    rw [if_neg (by omega)]
    unfold wantP
    dsimp only
    rw [isIt_last h, if_neg (by simp)]
    exact .bad z _ _ _
  | more u u' r r' h hk hu hr =>
    unfold namedP
    dsimp only
    rw [hk, ht]
    by_cases hc : u.f0 = 2 ∧ hasB types4 t.f1 = true
    · rw [if_pos hc, if_pos hc]
      exact .ite (.ok (by rw [hu]; exact strip1 strip0) hr)
    · rw [if_neg hc, if_neg hc]
      rw [ht] at hw
      exact hw
theorem primP_sim {or or' : Int → List Tk → Option Res} (hl4 : ∀ d t, t.f0 = 4 → ∀ x, or d [t] = some x → ∃ w p, x = .bad w p) (hp : ∀ d d' l l', Sm z l l' → SimO z (or d l) (or' d' l')) (k k' : Nat) (d d' : Int) (l l' : List Tk) (h : Sm z l l') : SimO z (primP or k d l) (primP or' k' d' l') := by
  unfold primP
  refine takeP_sim (fun t ht => ⟨30, t.f2, ?_⟩) (fun t t' r r' h4 hk ht hr => ?_) l l' h
  · rw [if_neg (by omega), if_neg (by omega), if_neg (by omega), if_neg (by omega), if_neg (by omega)]
  · rw [hk, ht]
    by_cases c0 : t.f0 = 0
    · rw [if_pos c0, if_pos c0]
      exact .ok strip0 hr
    rw [if_neg c0, if_neg c0]
    by_cases c1 : t.f0 = 2
    · rw [if_pos c1, if_pos c1]
      exact .ok strip0 hr
    rw [if_neg c1, if_neg c1]
    by_cases c2 : t.f0 = 3 ∧ t.f1 = sOpen
    · rw [if_pos c2, if_pos c2]
      by_cases hd : d + 1 > 20
      · rw [if_pos hd]
        exact .bad z _ _ _
      rw [if_neg hd]
      by_cases hd' : d' + 1 > 20
      · rw [if_pos hd']
        exact .deep z _ _
      rw [if_neg hd']
      exact (hp _ _ r r' hr).next fun m m' l l' hm hl => wantP_sim (fun r r' hr => .ok hm hr) l l' hl
    rw [if_neg c2, if_neg c2]
    by_cases c3 : t.f0 = 1 ∧ (t.f1 = sTrue ∨ t.f1 = sFalse)
    · rw [if_pos c3, if_pos c3]
      exact .ok strip0 hr
    rw [if_neg c3, if_neg c3]
    by_cases c4 : t.f0 = 1 ∧ hasB kept8 t.f1 = false
    · rw [if_pos c4, if_pos c4]
      exact namedP_sim hl4 hp k k' d d' t t' ht r r' hr
    · rw [if_neg c4]
      exact .bad z _ _ _
theorem parse_last : ∀ (k lev : Nat) (d : Int) (t : Tk), t.f0 = 4 → ∀ x, parse k lev d [t] = some x → ∃ w p, x = .bad w p := by
  intro k
  induction k with
  | zero => intro lev d t _ x hx; cases hx
  | succ k ih =>
    intro lev d t h x hx
    have hrow : ∀ {part : List Tk → Option Res} {f : Nd → List Tk → Option Res}, (∀ x, part [t] = some x → ∃ w p, x = .bad w p) → ((part [t]).bind fun n => n.then f) = some x → ∃ w p, x = .bad w p := by
      intro part f hp e
      cases hq : part [t] with
      | none => rw [hq] at e; cases e
      | some q =>
        obtain ⟨w, p, rfl⟩ := hp q hq
        rw [hq] at e
        exact ⟨w, p, by cases e; rfl⟩
    match lev, hx with
    | 0, hx => exact hrow (ih 1 d t h) hx
    | 1, hx => exact hrow (ih 2 d t h) hx
    | 2, hx =>
      have hx' : prefixP (parse k 2) (parse k 3) 7 sNot d [t] = some x := hx
      unfold prefixP at hx'
      dsimp only at hx'
      rw [isIt_last h, if_neg (by simp)] at hx'
      exact ih 3 d t h x hx'
    | 3, hx => exact hrow (ih 4 d t h) hx
    | 4, hx => exact hrow (ih 5 d t h) hx
    | 5, hx => exact hrow (ih 6 d t h) hx
    | 6, hx =>
      have hx' : prefixP (parse k 6) (parse k 7) 6 sMinus d [t] = some x := hx
      unfold prefixP at hx'
      dsimp only at hx'
      rw [isIt_last h, if_neg (by simp)] at hx'
      exact ih 7 d t h x hx'
    | 7, hx => exact hrow (ih 8 d t h) hx
    | 8, hx => exact hrow (ih 9 d t h) hx
    | lev + 9, hx =>
      have hx' : primP (parse k 0) k d [t] = some x := hx
      unfold primP takeP at hx'
      dsimp only at hx'
      rw [if_pos h, if_neg (by omega), if_neg (by omega), if_neg (by omega), if_neg (by omega), if_neg (by omega)] at hx'
      cases hx'
      exact ⟨_, _, rfl⟩
theorem parse_sim (hz : Shuts z) : ∀ (k k' lev : Nat) (d d' : Int) (l l' : List Tk), Sm z l l' → SimO z (parse k lev d l) (parse k' lev d' l') := by
  intro k
  induction k with
  | zero => intro k' lev d d' l l' _; exact .no z _
  | succ k ih =>
    intro k' lev d d' l l' h
    cases k' with
    | zero => exact .no' z _
    | succ k' =>
      match lev with
      | 0 => exact rowP_sim hz (fun l l' h => ih k' 1 d d' l l' h) (by decide) k k' l l' h
      | 1 => exact rowP_sim hz (fun l l' h => ih k' 2 d d' l l' h) (by decide) k k' l l' h
      | 2 => exact prefixP_sim hz d d' (fun d d' l l' h => ih k' 2 d d' l l' h) (fun l l' h => ih k' 3 d d' l l' h) (by decide) l l' h
      | 3 => exact cmpP_sim hz (fun l l' h => ih k' 4 d d' l l' h) l l' h
      | 4 => exact rowP_sim hz (fun l l' h => ih k' 5 d d' l l' h) (by decide) k k' l l' h
      | 5 => exact rowP_sim hz (fun l l' h => ih k' 6 d d' l l' h) (by decide) k k' l l' h
      | 6 => exact prefixP_sim hz d d' (fun d d' l l' h => ih k' 6 d d' l l' h) (fun l l' h => ih k' 7 d d' l l' h) (by decide) l l' h
      | 7 => exact zoneP_sim hz (fun l l' h => ih k' 8 d d' l l' h) k k' l l' h
      | 8 => exact castP_sim hz (fun l l' h => ih k' 9 d d' l l' h) k k' l l' h
      | lev + 9 => exact primP_sim (fun d t h => parse_last k 0 d t h) (fun d d' l l' h => ih k' 0 d d' l l' h) k k' d d' l l' h
end
end Go.Proofs.YtfgogfdbjbnlbaaDoor.PExpr
end
section
namespace Go.Proofs.YtfgogfdbjbnlbaaDoor.PExpr
open Go.RowKit Go.Proofs.YtfgogfdbjbnlbaaDoorW.PrintWords Go.Proofs.YtfgogfdbjbnlbaaDoorW.PrintLast Go.Proofs.YtfgogfdbjbnlbaaDoorW.PrintMore
set_option linter.unusedVariables false
set_option linter.unusedSimpArgs false
def Stays (rs : List (List ByteArray)) (u : Tk) : Prop := ∀ ss, ss ∈ rs → isIt ss u = false
theorem stays_last {u : Tk} (h : u.f0 = 4) (rs : List (List ByteArray)) : Stays rs u := fun ss _ => isIt_last h
theorem isIt_open (ss : List ByteArray) (t : Tk) (h1 : t.f1 = sOpen) (hs : hasB ss sOpen = false) : isIt ss t = false := by
  unfold isIt
  rw [h1, hs, Bool.and_false]
theorem row_one {part : List Tk → Option Res} {ss : List ByteArray} {k : Nat} {l r : List Tk} {u : Tk} {n : Nd} (hp : part l = some (.ok n (u :: r))) (hi : isIt ss u = false) : rowP part ss (k + 1) l = some (.ok n (u :: r)) := by
  unfold rowP
  rw [hp]
  show rowL part ss (k + 1) n (u :: r) = _
  unfold rowL
  rw [if_neg (by rw [hi]; simp)]
theorem cmp_one {sum : List Tk → Option Res} {l r : List Tk} {u : Tk} {n : Nd} (hp : sum l = some (.ok n (u :: r))) (hi : isIt cmps u = false) : cmpP sum l = some (.ok n (u :: r)) := by
  unfold cmpP
  rw [hp]
  show (if isIt cmps u = true then _ else _) = _
  rw [if_neg (by rw [hi]; simp)]
theorem zone_one {cast : List Tk → Option Res} {k : Nat} {l r : List Tk} {u : Tk} {n : Nd} (hp : cast l = some (.ok n (u :: r))) (hi : isIt [sAt] u = false) : zoneP cast (k + 1) l = some (.ok n (u :: r)) := by
  unfold zoneP
  rw [hp]
  show zoneL cast (k + 1) n (u :: r) = _
  unfold zoneL
  rw [if_neg (by rw [hi]; simp)]
theorem cast_one {prim : List Tk → Option Res} {k : Nat} {l r : List Tk} {u : Tk} {n : Nd} (hp : prim l = some (.ok n (u :: r))) (hi : isIt [sCast] u = false) : castP prim (k + 1) l = some (.ok n (u :: r)) := by
  unfold castP
  rw [hp]
  show castL (k + 1) n (u :: r) = _
  unfold castL
  rw [if_neg (by rw [hi]; simp)]
theorem pre_one {again other : Int → List Tk → Option Res} {kind : Int} {s : ByteArray} {d : Int} {t : Tk} {l : List Tk} (hi : isIt [s] t = false) : prefixP again other kind s d (t :: l) = other d (t :: l) := by
  unfold prefixP
  dsimp only
  rw [if_neg (by rw [hi]; simp)]
theorem prim_open {k : Nat} {d : Int} {t : Tk} {l : List Tk} (ht : t.f0 = 3) (h1 : t.f1 = sOpen) (hl : l ≠ []) (hd : d + 1 ≤ 20) {n : Nd} {u : Tk} {r : List Tk} (hu : u.f0 = 3) (hu1 : u.f1 = sShut) (hr : r ≠ []) (h : parse k 0 (d + 1) l = some (.ok n (u :: r))) : parse (k + 1) 9 d (t :: l) = some (.ok n r) := by
  show primP (parse k 0) k d (t :: l) = _
  unfold primP takeP
  dsimp only
  have hl' : ¬ l.isEmpty = true := by simpa using hl
  have hr' : ¬ r.isEmpty = true := by simpa using hr
  rw [if_neg (by omega), if_neg hl', if_neg (by omega), if_neg (by omega), if_pos ⟨ht, h1⟩, if_neg (by omega), h]
  show wantP sShut (u :: r) (fun l => some (.ok n l)) = _
  unfold wantP
  dsimp only
  have hi : isIt [sShut] u = true := by
    unfold isIt
    rw [hu, hu1]
    rfl
  rw [if_pos hi, if_neg hr']
theorem open_bad {k : Nat} {d : Int} {t : Tk} {l : List Tk} (ht : t.f0 = 3) (h1 : t.f1 = sOpen) (hl : l ≠ []) {w p : Int} (h : d + 1 ≤ 20 → parse k 0 (d + 1) l = some (.bad w p)) : ∃ w', (w' = w ∨ w' = 31) ∧ ∃ p', parse (k + 1) 9 d (t :: l) = some (.bad w' p') := by
  show ∃ w', _ ∧ ∃ p', primP (parse k 0) k d (t :: l) = _
  unfold primP takeP
  dsimp only
  have hl' : ¬ l.isEmpty = true := by simpa using hl
  rw [if_neg (by omega), if_neg hl', if_neg (by omega), if_neg (by omega), if_pos ⟨ht, h1⟩]
  by_cases hd : d + 1 > 20
  · rw [if_pos hd]
    exact ⟨31, .inr rfl, _, rfl⟩
  · rw [if_neg hd, h (by omega)]
    exact ⟨w, .inl rfl, _, rfl⟩
theorem up5 {k : Nat} {d : Int} {t : Tk} {l : List Tk} (h1 : t.f1 = sOpen) {n : Nd} {u : Tk} {r : List Tk} (h : parse (k + 1) 9 d (t :: l) = some (.ok n (u :: r))) (hs : Stays [[sStar, sSlash, sPer], [sAt], [sCast]] u) : parse (k + 5) 5 d (t :: l) = some (.ok n (u :: r)) := by
  have e8 : parse (k + 2) 8 d (t :: l) = some (.ok n (u :: r)) := cast_one h (hs _ (by simp))
  have e7 : parse (k + 3) 7 d (t :: l) = some (.ok n (u :: r)) := zone_one e8 (hs _ (by simp))
  have e6 : parse (k + 4) 6 d (t :: l) = some (.ok n (u :: r)) := (pre_one (isIt_open _ t h1 (by decide))).trans e7
  exact row_one e6 (hs _ (by simp))
theorem bind_bad {f : Nd → List Tk → Option Res} {a : Option Res} {w p : Int} (h : a = some (.bad w p)) : (a.bind fun n => n.then f) = some (.bad w p) := by
  rw [h]
  rfl
theorem bad5 {k : Nat} {d : Int} {t : Tk} {l : List Tk} (h1 : t.f1 = sOpen) {w p : Int} (h : parse (k + 1) 9 d (t :: l) = some (.bad w p)) : parse (k + 5) 5 d (t :: l) = some (.bad w p) := by
  have e8 : parse (k + 2) 8 d (t :: l) = some (.bad w p) := bind_bad h
  have e7 : parse (k + 3) 7 d (t :: l) = some (.bad w p) := bind_bad e8
  have e6 : parse (k + 4) 6 d (t :: l) = some (.bad w p) := (pre_one (isIt_open _ t h1 (by decide))).trans e7
  exact bind_bad e6
theorem up0 {k : Nat} {d : Int} {t : Tk} {l : List Tk} (h1 : t.f1 = sOpen) {n : Nd} {u : Tk} {r : List Tk} (h : parse (k + 1) 4 d (t :: l) = some (.ok n (u :: r))) (hs : Stays [[sOr], [sAnd], cmps] u) : parse (k + 5) 0 d (t :: l) = some (.ok n (u :: r)) := by
  have e3 : parse (k + 2) 3 d (t :: l) = some (.ok n (u :: r)) := cmp_one h (hs _ (by simp))
  have e2 : parse (k + 3) 2 d (t :: l) = some (.ok n (u :: r)) := (pre_one (isIt_open _ t h1 (by decide))).trans e3
  have e1 : parse (k + 4) 1 d (t :: l) = some (.ok n (u :: r)) := row_one e2 (hs _ (by simp))
  exact row_one e1 (hs _ (by simp))
theorem bad0 {k : Nat} {d : Int} {t : Tk} {l : List Tk} (h1 : t.f1 = sOpen) {w p : Int} (h : parse (k + 1) 4 d (t :: l) = some (.bad w p)) : parse (k + 5) 0 d (t :: l) = some (.bad w p) := by
  have e3 : parse (k + 2) 3 d (t :: l) = some (.bad w p) := bind_bad h
  have e2 : parse (k + 3) 2 d (t :: l) = some (.bad w p) := (pre_one (isIt_open _ t h1 (by decide))).trans e3
  have e1 : parse (k + 4) 1 d (t :: l) = some (.bad w p) := bind_bad e2
  exact bind_bad e1
theorem brackets {l l' z : List Tk} {n : Nd} {e : Tk} {k k' : Nat} {d : Int} {t u : Tk} {r : List Tk} (ht : t.f0 = 3) (h1 : t.f1 = sOpen) (hz : z = u :: r) (hu : u.f0 = 3) (hu1 : u.f1 = sShut) (hr : r ≠ []) (hl : Sm z l l') (ho : parse k 0 0 l = some (.ok n [e])) (he : e.f0 = 4) {x : Res} (hx : parse k' 0 (d + 1) l' = some x) :
    (∃ n', strip n' = strip n ∧ parse (k' + 1) 9 d (t :: l') = some (.ok n' r)) ∨ ∃ p, parse (k' + 1) 9 d (t :: l') = some (.bad 31 p) := by
  have hne : l' ≠ [] := by
    cases hl with
    | fin => rw [hz]; simp
    | more => simp
  have q := parse_sim ⟨u, r, hz, fun ss hs => isIt_shut hu1 hs⟩ k k' 0 0 (d + 1) l l' hl _ _ ho hx
  cases x with
  | bad w p =>
    have q' : w = 31 := q
    subst q'
    obtain ⟨w', hw, p', e'⟩ := open_bad (k := k') (d := d) ht h1 hne (fun _ => hx)
    have : w' = 31 := by omega
    subst this
    exact .inr ⟨p', e'⟩
  | ok n' r' =>
    obtain ⟨q1, q2⟩ := q
    by_cases hd : d + 1 ≤ 20
    · cases q2 with
      | fin _ _ => 
        subst hz
        exact .inl ⟨n', q1.symm, prim_open ht h1 hne hd hu hu1 hr hx⟩
      | more _ _ _ _ h4 => exact absurd he h4
    · obtain ⟨w', hw, p', e'⟩ := open_bad (k := k') (d := d) (w := 31) (p := 0) ht h1 hne (fun h => absurd h hd)
      have : w' = 31 := by omega
      subst this
      exact .inr ⟨p', e'⟩
theorem whole_brackets {l l' : List Tk} {n : Nd} {e e' : Tk} {k k' : Nat} {t u : Tk} (ht : t.f0 = 3) (h1 : t.f1 = sOpen) (hu : u.f0 = 3) (hu1 : u.f1 = sShut) (he' : e'.f0 = 4) (hl : Sm [u, e'] l l') (ho : parse k 0 0 l = some (.ok n [e])) (he : e.f0 = 4) (hx : ∃ x, parse k' 0 1 l' = some x) :
    (∃ n', strip n' = strip n ∧ parse (k' + 10) 0 0 (t :: l') = some (.ok n' [e'])) ∨ ∃ p, parse (k' + 10) 0 0 (t :: l') = some (.bad 31 p) := by
  obtain ⟨x, hx⟩ := hx
  rcases brackets (d := 0) (k' := k') ht h1 rfl hu hu1 (by simp) hl ho he hx with ⟨n', hn, q⟩ | ⟨p, q⟩
  · have e4 : parse (k' + 6) 4 0 (t :: l') = some (.ok n' [e']) := row_one (up5 h1 q (stays_last he' _)) (isIt_last he')
    exact .inl ⟨n', hn, up0 (k := k' + 5) h1 e4 (stays_last he' _)⟩
  · have e4 : parse (k' + 6) 4 0 (t :: l') = some (.bad 31 p) := bind_bad (bad5 h1 q)
    exact .inr ⟨p, bad0 (k := k' + 5) h1 e4⟩
end Go.Proofs.YtfgogfdbjbnlbaaDoor.PExpr
end
section
namespace Go.Proofs.YtfgogfdbjbnlbaaDoor.PExpr
open Go.RowKit Go.Proofs.YtfgogfdbjbnlbaaDoorW.PrintWords Go.Proofs.YtfgogfdbjbnlbaaDoorW.PrintLast Go.Proofs.YtfgogfdbjbnlbaaDoorW.PrintMore
set_option linter.unusedVariables false
set_option linter.unusedSimpArgs false
theorem split_some (s : ByteArray) : ∃ l x y, word_Split.f s = some (l, x, y) ∧ ((y = 0 ∧ Full l) ∨ (y = 21 ∧ 0 ≤ x ∧ x < s.size) ∨ (y = 3 ∧ x = 0)) := by
  unfold word_Split.f
  by_cases hs : s.size > 2048
  · rw [if_pos hs]
    exact ⟨_, _, _, rfl, Or.inr (Or.inr ⟨rfl, rfl⟩)⟩
  · rw [if_neg hs]
    obtain ⟨⟨l, x, y⟩, h⟩ := loop_some s (by omega) (s.size + 1) [] 0 0 (by omega) (Nat.zero_le _) (fun q hq => by cases hq) (Or.inl rfl)
    refine ⟨l, x, y, h, ?_⟩
    rcases loop_full s _ _ _ _ l x y h (fun q hq => by cases hq) with q | q
    · exact Or.inl q
    · exact Or.inr (Or.inl q)
end Go.Proofs.YtfgogfdbjbnlbaaDoor.PExpr
end
section
namespace Go.Proofs.YtfgogfdbjbnlbaaDoor.PExpr
open Go.RowKit Go.Proofs.YtfgogfdbjbnlbaaDoorW.PrintWords Go.Proofs.YtfgogfdbjbnlbaaDoorW.PrintLast Go.Proofs.YtfgogfdbjbnlbaaDoorW.PrintMore
set_option linter.unusedVariables false
set_option linter.unusedSimpArgs false
theorem parseS_good (s : ByteArray) : ∃ n pos why, parseS s = some (n, pos, why) ∧ ((why = 0 ∧ pos = 0 ∧ NdIn s.size n) ∨ (why ≠ 0 ∧ 0 ≤ pos ∧ pos ≤ s.size ∧ (why = 21 → pos < s.size))) := by
  obtain ⟨l, x, y, h, hc⟩ := split_some s
  unfold parseS
  rw [h]
  by_cases hy : y = 0
  · subst hy
    have hf : Full l := by
      rcases hc with q | q | q
      · exact q.2
      · omega
      · omega
    obtain ⟨hin, hle, hs⟩ := split_in h
    obtain ⟨R, h1, h2⟩ := lexL_good s (l.length + 1) [] l (by omega) (fun p hp => by
      have q1 := hin p hp
      have q2 := hf p hp
      exact ⟨q1.1, by have := q1.2; omega⟩) (fun t ht => by cases ht)
    show ∃ n pos why, ((lexL s (l.length + 1) [] l).bind _) = _ ∧ _
    rw [h1]
    cases R with
    | bad why pos => exact ⟨_, _, _, rfl, Or.inr ⟨by rw [h2.1]; decide, h2.2.1, by have := h2.2.2; omega, fun _ => h2.2.2⟩⟩
    | toks ts =>
      obtain ⟨n, pos, why, e, q⟩ := readP_good s ts h2.1 (by have := h2.2; simp at this; omega)
      refine ⟨n, pos, why, e, ?_⟩
      rcases q with q | q
      · exact Or.inl q
      · exact Or.inr ⟨by omega, q.2.1, q.2.2, fun w => by omega⟩
  · refine ⟨zeroN, x, y, if_pos hy, Or.inr ?_⟩
    rcases hc with q | q | q
    · exact absurd q.1 hy
    · exact ⟨hy, q.2.1, by omega, fun _ => q.2.2⟩
    · exact ⟨hy, by omega, by omega, fun w => by omega⟩
end Go.Proofs.YtfgogfdbjbnlbaaDoor.PExpr
end
section
namespace Go.Proofs.YtfgogfdbjbnlbaaDoor.PExpr
open Go.RowKit Go.Proofs.YtfgogfdbjbnlbaaDoor.Utf Go.Proofs.YtfgogfdbjbnlbaaDoorW.PrintWords Go.Proofs.YtfgogfdbjbnlbaaDoorW.PrintLast Go.Proofs.YtfgogfdbjbnlbaaDoorW.PrintMore
set_option linter.unusedVariables false
set_option linter.unusedSimpArgs false
theorem parseS_ok {s : ByteArray} {n : Nd} {pos : Int} (h : parseS s = some (n, pos, 0)) : ∃ (l : List Pt) (x : Int) (ts : List Tk) (e : Tk), word_Split.f s = some (l, x, 0) ∧ (∀ p, p ∈ l → PartIn s p) ∧ l.length ≤ s.size ∧ lexL s (l.length + 1) [] l = some (.toks ts) ∧ (∀ t, t ∈ ts → TkIn s t) ∧ ts.length ≤ l.length ∧ e.f0 = 4 ∧ parse 5000 0 0 (ts ++ [lastT s]) = some (.ok n [e]) := by
  obtain ⟨l, x, y, h0, hc⟩ := split_some s
  unfold parseS at h
  rw [h0] at h
  by_cases hy : y = 0
  · subst hy
    have hf : Full l := by
      rcases hc with q | q | q
      · exact q.2
      · omega
      · omega
    obtain ⟨hin, hle, hs⟩ := split_in h0
    obtain ⟨R, h1, h2⟩ := lexL_good s (l.length + 1) [] l (by omega) (fun p hp => by
      have q1 := hin p hp
      have q2 := hf p hp
      exact ⟨q1.1, by have := q1.2; omega⟩) (fun t ht => by cases ht)
    have h' : ((lexL s (l.length + 1) [] l).bind fun R => match R with
      | .bad why pos => some (zeroN, pos, why)
      | .toks l => readP (l ++ [lastT s])) = some (n, pos, 0) := h
    rw [h1] at h'
    cases R with
    | bad why pos =>
      have e : some (zeroN, pos, why) = some (n, _, 0) := h'
      simp only [Option.some.injEq, Prod.mk.injEq] at e
      have := h2.1
      omega
    | toks ts =>
      have h3 : readP (ts ++ [lastT s]) = some (n, pos, 0) := h'
      have hlen : ts.length ≤ l.length := by have := h2.2; simpa using this
      have hT := tks_last s ts h2.1
      have hg := parse_places (len := s.size) 5000 0 0 (ts ++ [lastT s]) (Nat.le_refl _) (by decide) (by decide) (by decide) (by rw [List.length_append, List.length_singleton]; have : (21 - (0 : Int)).toNat = 21 := rfl; omega) hT
      unfold readP at h3
      cases hR : parse 5000 0 0 (ts ++ [lastT s]) with
      | none => rw [hR] at hg; exact hg.elim
      | some R =>
        rw [hR] at hg h3
        cases R with
        | bad why q =>
          have e : some (zeroN, q, why) = some (n, pos, 0) := h3
          simp only [Option.some.injEq, Prod.mk.injEq] at e
          have := hg.2.2
          omega
        | ok m r =>
          cases r with
          | nil => exact absurd rfl hg.2.1.ne
          | cons t r =>
            have h4 : (if t.f0 ≠ 4 then some (zeroN, t.f2, (30 : Int)) else some (m, 0, 0)) = some (n, pos, 0) := h3
            by_cases ht : t.f0 = 4
            · rw [if_neg (fun q => q ht)] at h4
              simp only [Option.some.injEq, Prod.mk.injEq] at h4
              obtain ⟨e1, _, _⟩ := h4
              have er : r = [] := by
                have hk := hg.2.1
                cases hk with
                | fin _ _ _ _ => rfl
                | more _ _ q => exact absurd ht q
              subst er
              rw [e1] at hR
              exact ⟨l, x, ts, t, h0, hin, hle, h1, h2.1, hlen, ht, hR⟩
            · rw [if_pos ht] at h4
              simp at h4
  · have e : some (zeroN, x, y) = some (n, pos, 0) := by
      rw [← h]
      exact (if_pos hy).symm
    simp only [Option.some.injEq, Prod.mk.injEq] at e
    exact absurd e.2.2 hy
theorem parseS_of {S : ByteArray} {P : List Pt} {x : Int} {T : List Tk} (h0 : word_Split.f S = some (P, x, 0)) (h1 : lexL S (P.length + 1) [] P = some (.toks T)) : parseS S = readP (T ++ [lastT S]) := by
  unfold parseS
  rw [h0]
  show ((lexL S (P.length + 1) [] P).bind _) = _
  rw [h1]
  rfl
theorem readP_ok {L : List Tk} {m : Nd} {e : Tk} (h : parse 5000 0 0 L = some (.ok m [e])) (he : e.f0 = 4) : readP L = some (m, 0, 0) := by
  unfold readP
  rw [h]
  exact if_neg (fun q => q he)
theorem readP_bad {L : List Tk} {w p : Int} (h : parse 5000 0 0 L = some (.bad w p)) : readP L = some (zeroN, p, w) := by
  unfold readP
  rw [h]
  rfl
theorem sm_map (z : List Tk) (d : Int) (e : Tk) (he : e.f0 = 4) : ∀ (ts : List Tk), (∀ t, t ∈ ts → t.f0 ≠ 4) → Sm z (ts ++ [e]) (ts.map (shT d) ++ z)
  | [], _ => .fin e he
  | t :: ts, h => .more t _ _ _ (h t (by simp)) rfl rfl (sm_map z d e he ts fun u hu => h u (List.mem_cons_of_mem _ hu))
theorem parse_total (S : ByteArray) (L : List Tk) (hL : ∀ t, t ∈ L → TkIn S t) (hlen : L.length ≤ 4000) : ∃ x, parse 4990 0 1 (L ++ [lastT S]) = some x := by
  have hg := parse_places (len := S.size) 4990 0 1 (L ++ [lastT S]) (by decide) (by decide) (by decide) (by decide) (by rw [List.length_append, List.length_singleton]; have : (21 - (1 : Int)).toNat = 20 := rfl; omega) (tks_last S L hL)
  cases hR : parse 4990 0 1 (L ++ [lastT S]) with
  | none => rw [hR] at hg; exact hg.elim
  | some R => exact ⟨R, rfl⟩
theorem hasQ_shut (x : ByteArray) : hasQ (sShut ++ x) = false := by
  unfold hasQ
  have e : (sShut ++ x).size = 1 + x.size := by rw [ByteArray.size_append]; rfl
  rw [if_pos (by omega), extract_app sShut x 1 (Nat.le_refl 1)]
  decide +kernel
theorem brackets_parse {s : ByteArray} {n : Nd} {pos : Int} (h : parseS s = some (n, pos, 0)) (hs : s.size + 2 ≤ 2048) : ∃ m pos' why, parseS (sOpen ++ s ++ sShut) = some (m, pos', why) ∧ ((why = 0 ∧ strip m = strip n) ∨ why = 31) := by
  obtain ⟨l, x, ts, e, h0, hin, hle, h1, h2, hlen, he, hp⟩ := parseS_ok h
  have hsz : (sOpen ++ s ++ sShut).size = s.size + 2 := by
    rw [ByteArray.size_append, ByteArray.size_append]
    have e1 : sOpen.size = 1 := rfl
    have e2 : sShut.size = 1 := rfl
    omega
  have hsp := split_of_run (by omega) (run_brackets (split_run h0).2)
  have hz : Behind (sOpen.size + s.size : Nat) [(⟨3, sShut, s.size + 1⟩ : Pt)] := by
    refine ⟨⟨_, _, rfl, rfl, rfl⟩, fun q hq => ?_⟩
    rw [List.mem_singleton.1 hq]
    have e1 : sOpen.size = 1 := rfl
    show ((sOpen.size + s.size : Nat) : Int) ≤ (s.size : Int) + 1
    omega
  obtain ⟨ts0, g, e0, hg, hlx⟩ := lex_emb sOpen s sShut (by have := hasQ_shut noS; rwa [noS_right] at this) _ hz (l.length + 1) [] l ts hin h1
  rw [List.nil_append] at e0
  subst e0
  obtain ⟨r, hr⟩ : ∃ r, l.length = g + r := ⟨l.length - g, by omega⟩
  have e1 : (sOpen.size : Int) = 1 := rfl
  rw [e1] at hlx
  have hlex : lexL (sOpen ++ s ++ sShut) ((⟨3, sOpen, 0⟩ :: (l.map (shP 1) ++ [(⟨3, sShut, s.size + 1⟩ : Pt)])).length + 1) [] (⟨3, sOpen, 0⟩ :: (l.map (shP 1) ++ [(⟨3, sShut, s.size + 1⟩ : Pt)])) = some (.toks (⟨3, sOpen, 0⟩ :: (ts.map (shT 1) ++ [⟨3, sShut, s.size + 1⟩]))) := by
    have hn : (⟨3, sOpen, 0⟩ :: (l.map (shP 1) ++ [(⟨3, sShut, s.size + 1⟩ : Pt)])).length + 1 = (r + 1 + 1 + g) + 1 := by
      rw [List.length_cons, List.length_append, List.length_map, List.length_singleton]
      omega
    rw [hn]
    have a1 := lex_sign (sOpen ++ s ++ sShut) 40 0 (by decide) (r + 1 + 1 + g) [] (l.map (shP 1) ++ [(⟨3, sShut, s.size + 1⟩ : Pt)])
    have a2 := hlx (r + 1 + 1) ([] ++ [⟨3, ⟨#[40]⟩, 0⟩])
    have a3 := lex_sign (sOpen ++ s ++ sShut) 41 (s.size + 1) (by decide) (r + 1) ([] ++ [⟨3, ⟨#[40]⟩, 0⟩] ++ ts.map (shT 1)) []
    exact a1.trans (a2.trans (a3.trans (by rw [lexL, List.nil_append, List.append_assoc]; rfl)))
  have hpp := parseS_of hsp hlex
  have hTk : ∀ t, t ∈ ts.map (shT 1) ++ [(⟨3, sShut, s.size + 1⟩ : Tk)] → TkIn (sOpen ++ s ++ sShut) t := by
    intro t ht
    rcases List.mem_append.1 ht with q | q
    · obtain ⟨t', ht', rfl⟩ := List.mem_map.1 q
      obtain ⟨q1, q2, q3⟩ := h2 t' ht'
      exact ⟨q1, by show 0 ≤ t'.f2 + 1; omega, by show t'.f2 + 1 < ((sOpen ++ s ++ sShut).size : Nat); omega⟩
    · rw [List.mem_singleton.1 q]
      exact ⟨by show (3 : Int) ≠ 4; decide, by show 0 ≤ (s.size : Int) + 1; omega, by show (s.size : Int) + 1 < ((sOpen ++ s ++ sShut).size : Nat); omega⟩
  obtain ⟨X, hX⟩ := parse_total _ _ hTk (by rw [List.length_append, List.length_map, List.length_singleton]; omega)
  have hsm := sm_map [(⟨3, sShut, s.size + 1⟩ : Tk), lastT (sOpen ++ s ++ sShut)] 1 (lastT s) rfl ts (fun t ht => (h2 t ht).1)
  have hw := whole_brackets (t := ⟨3, sOpen, 0⟩) (k' := 4990) rfl rfl rfl rfl rfl hsm hp he ⟨X, by rw [List.append_assoc] at hX; exact hX⟩
  have eL : (⟨3, sOpen, 0⟩ :: (ts.map (shT 1) ++ [(⟨3, sShut, s.size + 1⟩ : Tk)])) ++ [lastT (sOpen ++ s ++ sShut)] = ⟨3, sOpen, 0⟩ :: (ts.map (shT 1) ++ [(⟨3, sShut, s.size + 1⟩ : Tk), lastT (sOpen ++ s ++ sShut)]) := by
    rw [List.cons_append, List.append_assoc]
    rfl
  rw [hpp, eL]
  rcases hw with ⟨n', hn, q⟩ | ⟨p, q⟩
  · exact ⟨n', 0, 0, readP_ok q rfl, .inl ⟨rfl, hn⟩⟩
  · exact ⟨zeroN, p, 31, readP_bad q, .inr rfl⟩
end Go.Proofs.YtfgogfdbjbnlbaaDoor.PExpr
end
section
namespace Go.Proofs.YtfgogfdbjbnlbaaDoor.PExpr
open Go.RowKit Go.Proofs.YtfgogfdbjbnlbaaDoorW.PrintWords Go.Proofs.YtfgogfdbjbnlbaaDoorW.PrintLast Go.Proofs.YtfgogfdbjbnlbaaDoorW.PrintMore
set_option linter.unusedVariables false
set_option linter.unusedSimpArgs false
def SimQ (z : List Tk) : Res → Res → Prop
  | .ok n r, .ok n' r' => strip n = strip n' ∧ Sm z r r'
  | .ok _ _, .bad _ _ => False
  | .bad w _, y => w = 31 → ∃ p, y = .bad 31 p
def QimO (z : List Tk) (a b : Option Res) : Prop := ∀ x y, a = some x → b = some y → SimQ z x y
theorem QimO.no (z : List Tk) (b : Option Res) : QimO z none b := fun x y hx => by cases hx
theorem QimO.no' (z : List Tk) (a : Option Res) : QimO z a none := fun x y _ hy => by cases hy
theorem QimO.bad (z : List Tk) (w p : Int) (b : Option Res) (h : w ≠ 31) : QimO z (some (.bad w p)) b := fun x y hx hy => by
  cases hx
  exact fun q => absurd q h
theorem QimO.both (z : List Tk) (p p' : Int) : QimO z (some (.bad 31 p)) (some (.bad 31 p')) := fun x y hx hy => by
  cases hx
  cases hy
  exact fun _ => ⟨p', rfl⟩
theorem QimO.ok {z : List Tk} {n n' : Nd} {r r' : List Tk} (h : strip n = strip n') (hr : Sm z r r') : QimO z (some (.ok n r)) (some (.ok n' r')) := fun x y hx hy => by
  cases hx
  cases hy
  exact ⟨h, hr⟩
theorem QimO.next {z : List Tk} {a b : Option Res} {f g : Nd → List Tk → Option Res} (h : QimO z a b) (hf : ∀ n n' r r', strip n = strip n' → Sm z r r' → QimO z (f n r) (g n' r')) : QimO z (a.bind fun n => n.then f) (b.bind fun n => n.then g) := by
  intro x y hx hy
  cases a with
  | none => cases hx
  | some a =>
    cases b with
    | none => cases hy
    | some b =>
      have q := h a b rfl rfl
      cases a with
      | bad w p =>
        cases hx
        intro h31
        obtain ⟨p', rfl⟩ := q h31
        cases hy
        exact ⟨p', rfl⟩
      | ok n r =>
        cases b with
        | bad w p => exact absurd q (fun q => q)
        | ok n' r' => exact hf n n' r r' q.1 q.2 x y hx hy
theorem QimO.ite {z : List Tk} {c c' : Prop} [Decidable c] [Decidable c'] {a b : Option Res} (h : QimO z a b) : QimO z (if c then none else a) (if c' then none else b) := by
  by_cases hc : c
  · rw [if_pos hc]
    exact .no z _
  · by_cases hc' : c'
    · rw [if_pos hc']
      exact .no' z _
    · rw [if_neg hc, if_neg hc']
      exact h
section
variable {z : List Tk}
theorem rowL_eq (hz : Shuts z) {part part' : List Tk → Option Res} {ss : List ByteArray} (hp : ∀ l l', Sm z l l' → QimO z (part l) (part' l')) (hs : hasB ss sShut = false) : ∀ (k k' : Nat) (n n' : Nd) (l l' : List Tk), strip n = strip n' → Sm z l l' → QimO z (rowL part ss k n l) (rowL part' ss k' n' l')
  | 0, k', n, n', l, l', _, _ => .no z _
  | k + 1, 0, n, n', l, l', _, _ => .no' z _
  | k + 1, k' + 1, n, n', _, _, hn, .fin t h => by
    have hF : Sm z [t] z := .fin t h
    obtain ⟨u, r, rfl, hst⟩ := hz
    unfold rowL
    rw [isIt_last h, hst _ hs, if_neg (by simp), if_neg (by simp)]
    exact .ok hn hF
  | k + 1, k' + 1, n, n', _, _, hn, .more t t' r r' h hk ht hr => by
    unfold rowL
    rw [isIt_alike hk ht]
    by_cases hi : isIt ss t = true
    · rw [if_pos hi, if_pos hi]
      refine .ite ((hp r r' hr).next fun m m' l l' hm hl => ?_)
      exact rowL_eq hz hp hs k k' _ _ l l' (by rw [ht]; exact strip2 hn hm) hl
    · rw [if_neg hi, if_neg hi]
      exact .ok hn (.more t t' r r' h hk ht hr)
theorem rowP_eq (hz : Shuts z) {part part' : List Tk → Option Res} {ss : List ByteArray} (hp : ∀ l l', Sm z l l' → QimO z (part l) (part' l')) (hs : hasB ss sShut = false) (k k' : Nat) (l l' : List Tk) (h : Sm z l l') : QimO z (rowP part ss k l) (rowP part' ss k' l') := by
  unfold rowP
  exact (hp l l' h).next fun n n' r r' hn hr => rowL_eq hz hp hs k k' n n' r r' hn hr
theorem prefixP_eq (hz : Shuts z) {again other again' other' : Int → List Tk → Option Res} {kind : Int} {s : ByteArray} (d : Int) (ha : ∀ d l l', Sm z l l' → QimO z (again d l) (again' d l')) (ho : ∀ l l', Sm z l l' → QimO z (other d l) (other' d l')) (hs : hasB [s] sShut = false) (l l' : List Tk) (h : Sm z l l') : QimO z (prefixP again other kind s d l) (prefixP again' other' kind s d l') := by
  cases h with
  | fin t h =>
    have hF : Sm z [t] z := .fin t h
    obtain ⟨u, r, rfl, hst⟩ := hz
    unfold prefixP
    dsimp only
    rw [isIt_last h, hst _ hs, if_neg (by simp), if_neg (by simp)]
    exact ho _ _ hF
  | more t t' r r' h hk ht hr =>
    have hF : Sm z (t :: r) (t' :: r') := .more t t' r r' h hk ht hr
    unfold prefixP
    dsimp only
    rw [isIt_alike hk ht]
    by_cases hi : isIt [s] t = true
    · rw [if_pos hi, if_pos hi]
      refine .ite ?_
      by_cases hd : d + 1 > 20
      · rw [if_pos hd, if_pos hd]
        exact .both z _ _
      · rw [if_neg hd, if_neg hd]
        exact (ha _ r r' hr).next fun m m' l l' hm hl => .ok (strip1 hm) hl
    · rw [if_neg hi, if_neg hi]
      exact ho _ _ hF
theorem cmpP_eq (hz : Shuts z) {sum sum' : List Tk → Option Res} (hp : ∀ l l', Sm z l l' → QimO z (sum l) (sum' l')) (l l' : List Tk) (h : Sm z l l') : QimO z (cmpP sum l) (cmpP sum' l') := by
  unfold cmpP
  refine (hp l l' h).next fun n n' q q' hn hq => ?_
  clear h
  cases hq with
  | fin t h =>
    have hF : Sm z [t] z := .fin t h
    obtain ⟨u, r, rfl, hst⟩ := hz
    dsimp only
    rw [isIt_last h, hst _ (by decide), if_neg (by simp), if_neg (by simp)]
    exact .ok hn hF
  | more t t' r r' h hk ht hr =>
    dsimp only
    rw [isIt_alike hk ht]
    by_cases hi : isIt cmps t = true
    · rw [if_pos hi, if_pos hi]
      refine .ite ((hp r r' hr).next fun m m' l l' hm hl => ?_)
      rw [ht]
      exact .ok (strip2 hn hm) hl
    · rw [if_neg hi, if_neg hi]
      exact .ok hn (.more t t' r r' h hk ht hr)
theorem wantP_eq {s : ByteArray} {f f' : List Tk → Option Res} (hf : ∀ r r', Sm z r r' → QimO z (f r) (f' r')) (l l' : List Tk) (h : Sm z l l') : QimO z (wantP s l f) (wantP s l' f') := by
  cases h with
  | fin t h =>
    unfold wantP
    dsimp only
    rw [isIt_last h, if_neg (by simp)]
    exact .bad z _ _ _ (by decide)
  | more t t' r r' h hk ht hr =>
    unfold wantP
    dsimp only
    rw [isIt_alike hk ht]
    by_cases hi : isIt [s] t = true
    · rw [if_pos hi, if_pos hi]
      exact .ite (hf r r' hr)
    · rw [if_neg hi, if_neg hi]
      exact .bad z _ _ _ (by decide)
theorem zoneL_eq (hz : Shuts z) {cast cast' : List Tk → Option Res} (hp : ∀ l l', Sm z l l' → QimO z (cast l) (cast' l')) : ∀ (k k' : Nat) (n n' : Nd) (l l' : List Tk), strip n = strip n' → Sm z l l' → QimO z (zoneL cast k n l) (zoneL cast' k' n' l')
  | 0, k', n, n', l, l', _, _ => .no z _
  | k + 1, 0, n, n', l, l', _, _ => .no' z _
  | k + 1, k' + 1, n, n', _, _, hn, .fin t h => by
    have hF : Sm z [t] z := .fin t h
    obtain ⟨u, r, rfl, hst⟩ := hz
    unfold zoneL
    rw [isIt_last h, hst _ (by decide), if_neg (by simp), if_neg (by simp)]
    exact .ok hn hF
  | k + 1, k' + 1, n, n', _, _, hn, .more t t' r r' h hk ht hr => by
    unfold zoneL
    rw [isIt_alike hk ht]
    by_cases hi : isIt [sAt] t = true
    · rw [if_pos hi, if_pos hi]
      refine .ite (wantP_eq (fun r1 r1' h1 => wantP_eq (fun r2 r2' h2 => (hp r2 r2' h2).next fun m m' l l' hm hl => ?_) _ _ h1) _ _ hr)
      exact zoneL_eq hz hp k k' _ _ l l' (strip2 hn hm) hl
    · rw [if_neg hi, if_neg hi]
      exact .ok hn (.more t t' r r' h hk ht hr)
theorem zoneP_eq (hz : Shuts z) {cast cast' : List Tk → Option Res} (hp : ∀ l l', Sm z l l' → QimO z (cast l) (cast' l')) (k k' : Nat) (l l' : List Tk) (h : Sm z l l') : QimO z (zoneP cast k l) (zoneP cast' k' l') := by
  unfold zoneP
  exact (hp l l' h).next fun n n' r r' hn hr => zoneL_eq hz hp k k' n n' r r' hn hr
theorem takeP_eq {f f' : Tk → List Tk → Option Res} (h4 : ∀ t, t.f0 = 4 → ∃ p, f t [t] = some (.bad 30 p)) (hf : ∀ t t' r r', t.f0 ≠ 4 → t'.f0 = t.f0 → t'.f1 = t.f1 → Sm z r r' → QimO z (f t r) (f' t' r')) (l l' : List Tk) (h : Sm z l l') : QimO z (takeP l f) (takeP l' f') := by
  cases h with
  | fin t h =>
    unfold takeP
    dsimp only
    rw [if_pos h]
    obtain ⟨p, e⟩ := h4 t h
    rw [e]
    exact .bad z _ _ _ (by decide)
  | more t t' r r' h hk ht hr =>
    unfold takeP
    dsimp only
    rw [if_neg h, if_neg (show ¬ t'.f0 = 4 by rw [hk]; exact h)]
    exact .ite (hf t t' r r' h hk ht hr)
theorem castL_eq (hz : Shuts z) : ∀ (k k' : Nat) (n n' : Nd) (l l' : List Tk), strip n = strip n' → Sm z l l' → QimO z (castL k n l) (castL k' n' l')
  | 0, k', n, n', l, l', _, _ => .no z _
  | k + 1, 0, n, n', l, l', _, _ => .no' z _
  | k + 1, k' + 1, n, n', _, _, hn, .fin t h => by
    have hF : Sm z [t] z := .fin t h
    obtain ⟨u, r, rfl, hst⟩ := hz
    unfold castL
    rw [isIt_last h, hst _ (by decide), if_neg (by simp), if_neg (by simp)]
    exact .ok hn hF
  | k + 1, k' + 1, n, n', _, _, hn, .more t t' r r' h hk ht hr => by
    unfold castL
    rw [isIt_alike hk ht]
    by_cases hi : isIt [sCast] t = true
    · rw [if_pos hi, if_pos hi]
      refine .ite (takeP_eq (fun u hu => ⟨_, if_pos (Or.inl (by omega))⟩) (fun u u' r1 r1' hu huk hut h1 => ?_) _ _ hr)
      rw [huk, hut]
      by_cases hc : u.f0 ≠ 1 ∨ hasB kept8 u.f1 = true
      · rw [if_pos hc]
        exact .bad z _ _ _ (by decide)
      · rw [if_neg hc, if_neg hc]
        exact castL_eq hz k k' _ _ r1 r1' (strip1 hn) h1
    · rw [if_neg hi, if_neg hi]
      exact .ok hn (.more t t' r r' h hk ht hr)
theorem castP_eq (hz : Shuts z) {prim prim' : List Tk → Option Res} (hp : ∀ l l', Sm z l l' → QimO z (prim l) (prim' l')) (k k' : Nat) (l l' : List Tk) (h : Sm z l l') : QimO z (castP prim k l) (castP prim' k' l') := by
  unfold castP
  exact (hp l l' h).next fun n n' r r' hn hr => castL_eq hz k k' n n' r r' hn hr
theorem argsL_eq {part part' : List Tk → Option Res} (hp : ∀ l l', Sm z l l' → QimO z (part l) (part' l')) {f f' : List Nd → List Tk → Option Res} (hf : ∀ ns ns' r r', strips ns = strips ns' → Sm z r r' → QimO z (f ns r) (f' ns' r')) : ∀ (k k' : Nat) (ns ns' : List Nd) (l l' : List Tk), strips ns = strips ns' → Sm z l l' → QimO z (argsL part k ns l f) (argsL part' k' ns' l' f')
  | 0, k', n, n', l, l', _, _ => .no z _
  | k + 1, 0, n, n', l, l', _, _ => .no' z _
  | k + 1, k' + 1, n, n', _, _, hn, .fin t h => by
    unfold argsL
    rw [isIt_last h, if_neg (by simp)]
    unfold wantP
    dsimp only
    rw [isIt_last h, if_neg (by simp)]
    exact .bad z _ _ _ (by decide)
  | k + 1, k' + 1, n, n', _, _, hn, .more t t' r r' h hk ht hr => by
    unfold argsL
    rw [isIt_alike hk ht]
    by_cases hi : isIt [sComma] t = true
    · rw [if_pos hi, if_pos hi]
      refine .ite ((hp r r' hr).next fun m m' l l' hm hl => ?_)
      exact argsL_eq hp hf k k' _ _ l l' (strips_snoc hn hm) hl
    · rw [if_neg hi, if_neg hi]
      exact wantP_eq (fun r r' hr => hf _ _ r r' hn hr) _ _ (.more t t' r r' h hk ht hr)
theorem argsP_eq {part part' : List Tk → Option Res} (hl4 : ∀ t, t.f0 = 4 → ∀ x, part [t] = some x → ∃ p, x = .bad 30 p) (hp : ∀ l l', Sm z l l' → QimO z (part l) (part' l')) {f f' : List Nd → List Tk → Option Res} (hf : ∀ ns ns' r r', strips ns = strips ns' → Sm z r r' → QimO z (f ns r) (f' ns' r')) (k k' : Nat) (l l' : List Tk) (h : Sm z l l') : QimO z (argsP part k l f) (argsP part' k' l' f') := by
  cases h with
  | fin t h =>
    unfold argsP
    dsimp only
    rw [isIt_last h, if_neg (by simp)]
    intro x y hx hy
    cases hq : part [t] with
    | none => rw [hq] at hx; cases hx
    | some q =>
      obtain ⟨p, rfl⟩ := hl4 t h q hq
      rw [hq] at hx
      cases hx
      exact fun q => absurd q (by decide)
  | more t t' r r' h hk ht hr =>
    have hF : Sm z (t :: r) (t' :: r') := .more t t' r r' h hk ht hr
    unfold argsP
    dsimp only
    rw [isIt_alike hk ht]
    by_cases hi : isIt [sShut] t = true
    · rw [if_pos hi, if_pos hi]
      exact .ite (hf _ _ r r' rfl hr)
    · rw [if_neg hi, if_neg hi]
      exact (hp _ _ hF).next fun m m' l l' hm hl => argsL_eq hp hf k k' _ _ l l' (by simp only [strips, hm]) hl
theorem namedP_eq {or or' : Int → List Tk → Option Res} (hl4 : ∀ d t, t.f0 = 4 → ∀ x, or d [t] = some x → ∃ p, x = .bad 30 p) (hp : ∀ d l l', Sm z l l' → QimO z (or d l) (or' d l')) (k k' : Nat) (d : Int) (t t' : Tk) (ht : t'.f1 = t.f1) (l l' : List Tk) (h : Sm z l l') : QimO z (namedP or k d t l) (namedP or' k' d t' l') := by
  have hw : QimO z (wantP sOpen l fun l => if d + 1 > 20 then some (.bad 31 t.f2) else argsP (or (d + 1)) k l fun ns l => some (.ok ⟨9, t.f1, ns, t.f2⟩ l)) (wantP sOpen l' fun l => if d + 1 > 20 then some (.bad 31 t'.f2) else argsP (or' (d + 1)) k' l fun ns l => some (.ok ⟨9, t'.f1, ns, t'.f2⟩ l)) := by
    refine wantP_eq (fun r r' hr => ?_) l l' h
    by_cases hd : d + 1 > 20
    · rw [if_pos hd, if_pos hd]
      exact .both z _ _
    · rw [if_neg hd, if_neg hd]
      exact argsP_eq (hl4 _) (hp _) (fun ns ns' r r' hn hr => .ok (by simp only [strip, hn, ht]) hr) k k' r r' hr
  cases h with
  | fin u h =>
    unfold namedP
    dsimp only
    rw [if_neg (by omega)]
    unfold wantP
    dsimp only
    rw [isIt_last h, if_neg (by simp)]
    exact .bad z _ _ _ (by decide)
  | more u u' r r' h hk hu hr =>
    unfold namedP
    dsimp only
    rw [hk, ht]
    by_cases hc : u.f0 = 2 ∧ hasB types4 t.f1 = true
    · rw [if_pos hc, if_pos hc]
      exact .ite (.ok (by rw [hu]; exact strip1 strip0) hr)
    · rw [if_neg hc, if_neg hc]
      rw [ht] at hw
      exact hw
theorem primP_eq {or or' : Int → List Tk → Option Res} (hl4 : ∀ d t, t.f0 = 4 → ∀ x, or d [t] = some x → ∃ p, x = .bad 30 p) (hp : ∀ d l l', Sm z l l' → QimO z (or d l) (or' d l')) (k k' : Nat) (d : Int) (l l' : List Tk) (h : Sm z l l') : QimO z (primP or k d l) (primP or' k' d l') := by
  unfold primP
  refine takeP_eq (fun t ht => ⟨t.f2, ?_⟩) (fun t t' r r' h4 hk ht hr => ?_) l l' h
  · rw [if_neg (by omega), if_neg (by omega), if_neg (by omega), if_neg (by omega), if_neg (by omega)]
  · rw [hk, ht]
    by_cases c0 : t.f0 = 0
    · rw [if_pos c0, if_pos c0]
      exact .ok strip0 hr
    rw [if_neg c0, if_neg c0]
    by_cases c1 : t.f0 = 2
    · rw [if_pos c1, if_pos c1]
      exact .ok strip0 hr
    rw [if_neg c1, if_neg c1]
    by_cases c2 : t.f0 = 3 ∧ t.f1 = sOpen
    · rw [if_pos c2, if_pos c2]
      by_cases hd : d + 1 > 20
      · rw [if_pos hd, if_pos hd]
        exact .both z _ _
      rw [if_neg hd, if_neg hd]
      exact (hp _ r r' hr).next fun m m' l l' hm hl => wantP_eq (fun r r' hr => .ok hm hr) l l' hl
    rw [if_neg c2, if_neg c2]
    by_cases c3 : t.f0 = 1 ∧ (t.f1 = sTrue ∨ t.f1 = sFalse)
    · rw [if_pos c3, if_pos c3]
      exact .ok strip0 hr
    rw [if_neg c3, if_neg c3]
    by_cases c4 : t.f0 = 1 ∧ hasB kept8 t.f1 = false
    · rw [if_pos c4, if_pos c4]
      exact namedP_eq hl4 hp k k' d t t' ht r r' hr
    · rw [if_neg c4]
      exact .bad z _ _ _ (by decide)
theorem parse_last30 : ∀ (k lev : Nat) (d : Int) (t : Tk), t.f0 = 4 → ∀ x, parse k lev d [t] = some x → ∃ p, x = .bad 30 p := by
  intro k
  induction k with
  | zero => intro lev d t _ x hx; cases hx
  | succ k ih =>
    intro lev d t h x hx
    have hrow : ∀ {part : List Tk → Option Res} {f : Nd → List Tk → Option Res}, (∀ x, part [t] = some x → ∃ p, x = .bad 30 p) → ((part [t]).bind fun n => n.then f) = some x → ∃ p, x = .bad 30 p := by
      intro part f hp e
      cases hq : part [t] with
      | none => rw [hq] at e; cases e
      | some q =>
        obtain ⟨p, rfl⟩ := hp q hq
        rw [hq] at e
        exact ⟨p, by cases e; rfl⟩
    match lev, hx with
    | 0, hx => exact hrow (ih 1 d t h) hx
    | 1, hx => exact hrow (ih 2 d t h) hx
    | 2, hx =>
      have hx' : prefixP (parse k 2) (parse k 3) 7 sNot d [t] = some x := hx
      unfold prefixP at hx'
      dsimp only at hx'
      rw [isIt_last h, if_neg (by simp)] at hx'
      exact ih 3 d t h x hx'
    | 3, hx => exact hrow (ih 4 d t h) hx
    | 4, hx => exact hrow (ih 5 d t h) hx
    | 5, hx => exact hrow (ih 6 d t h) hx
    | 6, hx =>
      have hx' : prefixP (parse k 6) (parse k 7) 6 sMinus d [t] = some x := hx
      unfold prefixP at hx'
      dsimp only at hx'
      rw [isIt_last h, if_neg (by simp)] at hx'
      exact ih 7 d t h x hx'
    | 7, hx => exact hrow (ih 8 d t h) hx
    | 8, hx => exact hrow (ih 9 d t h) hx
    | lev + 9, hx =>
      have hx' : primP (parse k 0) k d [t] = some x := hx
      unfold primP takeP at hx'
      dsimp only at hx'
      rw [if_pos h, if_neg (by omega), if_neg (by omega), if_neg (by omega), if_neg (by omega), if_neg (by omega)] at hx'
      cases hx'
      exact ⟨_, rfl⟩
theorem parse_eq (hz : Shuts z) : ∀ (k k' lev : Nat) (d : Int) (l l' : List Tk), Sm z l l' → QimO z (parse k lev d l) (parse k' lev d l') := by
  intro k
  induction k with
  | zero => intro k' lev d l l' _; exact .no z _
  | succ k ih =>
    intro k' lev d l l' h
    cases k' with
    | zero => exact .no' z _
    | succ k' =>
      match lev with
      | 0 => exact rowP_eq hz (fun l l' h => ih k' 1 d l l' h) (by decide) k k' l l' h
      | 1 => exact rowP_eq hz (fun l l' h => ih k' 2 d l l' h) (by decide) k k' l l' h
      | 2 => exact prefixP_eq hz d (fun d l l' h => ih k' 2 d l l' h) (fun l l' h => ih k' 3 d l l' h) (by decide) l l' h
      | 3 => exact cmpP_eq hz (fun l l' h => ih k' 4 d l l' h) l l' h
      | 4 => exact rowP_eq hz (fun l l' h => ih k' 5 d l l' h) (by decide) k k' l l' h
      | 5 => exact rowP_eq hz (fun l l' h => ih k' 6 d l l' h) (by decide) k k' l l' h
      | 6 => exact prefixP_eq hz d (fun d l l' h => ih k' 6 d l l' h) (fun l l' h => ih k' 7 d l l' h) (by decide) l l' h
      | 7 => exact zoneP_eq hz (fun l l' h => ih k' 8 d l l' h) k k' l l' h
      | 8 => exact castP_eq hz (fun l l' h => ih k' 9 d l l' h) k k' l l' h
      | lev + 9 => exact primP_eq (fun d t h => parse_last30 k 0 d t h) (fun d l l' h => ih k' 0 d l l' h) k k' d l l' h
end
end Go.Proofs.YtfgogfdbjbnlbaaDoor.PExpr
end
section
namespace Go.Proofs.YtfgogfdbjbnlbaaDoor.PExpr
open Go.RowKit Go.Proofs.YtfgogfdbjbnlbaaDoor.Utf Go.Proofs.YtfgogfdbjbnlbaaDoorW.PrintWords Go.Proofs.YtfgogfdbjbnlbaaDoorW.PrintLast Go.Proofs.YtfgogfdbjbnlbaaDoorW.PrintMore
set_option linter.unusedVariables false
set_option linter.unusedSimpArgs false
theorem shuts_last {e : Tk} (he : e.f0 = 4) : Shuts [e] := ⟨e, [], rfl, fun ss _ => isIt_last he⟩
theorem shuts_shut {u : Tk} (hu : u.f1 = sShut) (r : List Tk) : Shuts (u :: r) := ⟨u, r, rfl, fun ss hs => isIt_shut hu hs⟩
theorem sm_self {e : Tk} (he : e.f0 = 4) : ∀ ts : List Tk, (∀ t ∈ ts, t.f0 ≠ 4) → Sm [e] (ts ++ [e]) (ts ++ [e])
  | [], _ => .fin e he
  | t :: ts, h => .more t t _ _ (h t (by simp)) rfl rfl (sm_self he ts fun u hu => h u (List.mem_cons_of_mem _ hu))
theorem depth_same {l l1 l2 z1 z2 : List Tk} {n : Nd} {e : Tk} {k kx k1 k2 : Nat} {d : Int} (he : e.f0 = 4) (hs : Sm [e] l l) (hz1 : Shuts z1) (hz2 : Shuts z2) (h1 : Sm z1 l l1) (h2 : Sm z2 l l2) (ho : parse k 0 0 l = some (.ok n [e])) {x y1 y2 : Res} (hx : parse kx 0 d l = some x) (hy1 : parse k1 0 d l1 = some y1) (hy2 : parse k2 0 d l2 = some y2) {n1 : Nd} {r1 : List Tk} (hk : y1 = .ok n1 r1) : ∃ n2 r2, y2 = .ok n2 r2 := by
  subst hk
  have q0 := parse_sim (shuts_last he) k kx 0 0 d l l hs _ _ ho hx
  have q1 := parse_eq hz1 kx k1 0 d l l1 h1 _ _ hx hy1
  have q2 := parse_eq hz2 kx k2 0 d l l2 h2 _ _ hx hy2
  cases x with
  | bad w p =>
    obtain ⟨p', hp⟩ := q1 q0
    cases hp
  | ok m r =>
    cases y2 with
    | bad w p => exact absurd q2 (fun q => q)
    | ok n2 r2 => exact ⟨n2, r2, rfl⟩
theorem cast_two {prim : List Tk → Option Res} {k : Nat} {l : List Tk} {u v e : Tk} {n : Nd} (hp : prim l = some (.ok n [u, v, e])) (hu : isIt [sCast] u = true) (hv : v.f0 = 1) (hv1 : hasB kept8 v.f1 = false) (he : e.f0 = 4) : castP prim (k + 2) l = some (.ok ⟨10, v.f1, [n], u.f2⟩ [e]) := by
  unfold castP
  rw [hp]
  show castL (k + 2) n [u, v, e] = _
  unfold castL
  rw [if_pos hu, if_neg (by simp)]
  unfold takeP
  dsimp only
  rw [if_neg (by omega), if_neg (by simp), if_neg (by rw [hv, hv1]; simp)]
  unfold castL
  rw [if_neg (by rw [isIt_last he]; simp)]
theorem whole_cast {l l' : List Tk} {n : Nd} {e e' : Tk} {k k' : Nat} {t u c v : Tk} (ht : t.f0 = 3) (h1 : t.f1 = sOpen) (hu : u.f0 = 3) (hu1 : u.f1 = sShut) (hc : c.f0 = 3) (hc1 : c.f1 = sCast) (hv : v.f0 = 1) (hv1 : hasB kept8 v.f1 = false) (he' : e'.f0 = 4) (hl : Sm [u, c, v, e'] l l') (ho : parse k 0 0 l = some (.ok n [e])) (he : e.f0 = 4) {x : Res} (hx : parse (k' + 1) 0 1 l' = some x) :
    (∃ n', strip n' = strip n ∧ parse (k' + 11) 0 0 (t :: l') = some (.ok ⟨10, v.f1, [n'], c.f2⟩ [e'])) ∨ ∃ p, x = .bad 31 p := by
  have hne : l' ≠ [] := by
    cases hl with
    | fin => simp
    | more => simp
  have q := parse_sim (shuts_shut hu1 _) k (k' + 1) 0 0 1 l l' hl _ _ ho hx
  cases x with
  | bad w p =>
    have q' : w = 31 := q
    exact .inr ⟨p, by rw [q']⟩
  | ok n' r' =>
    obtain ⟨q1, q2⟩ := q
    cases q2 with
    | fin _ _ =>
      have q9 := prim_open (d := 0) ht h1 hne (by decide) hu hu1 (by simp) hx
      have hic : isIt [sCast] c = true := by
        unfold isIt
        rw [hc, hc1]
        rfl
      have e8 : parse (k' + 3) 8 0 (t :: l') = some (.ok ⟨10, v.f1, [n'], c.f2⟩ [e']) := cast_two (k := k') q9 hic hv hv1 he'
      have e7 : parse (k' + 4) 7 0 (t :: l') = some (.ok ⟨10, v.f1, [n'], c.f2⟩ [e']) := zone_one e8 (isIt_last he')
      have e6 : parse (k' + 5) 6 0 (t :: l') = some (.ok ⟨10, v.f1, [n'], c.f2⟩ [e']) := (pre_one (isIt_open _ t h1 (by decide))).trans e7
      have e5 : parse (k' + 6) 5 0 (t :: l') = some (.ok ⟨10, v.f1, [n'], c.f2⟩ [e']) := row_one e6 (isIt_last he')
      have e4 : parse (k' + 7) 4 0 (t :: l') = some (.ok ⟨10, v.f1, [n'], c.f2⟩ [e']) := row_one e5 (isIt_last he')
      exact .inl ⟨n', q1.symm, up0 (k := k' + 6) h1 e4 (stays_last he' _)⟩
    | more _ _ _ _ h4 => exact absurd he h4
end Go.Proofs.YtfgogfdbjbnlbaaDoor.PExpr
end
section
namespace Go.Proofs.YtfgogfdbjbnlbaaDoor.PExpr
open Go.RowKit Go.Proofs.YtfgogfdbjbnlbaaDoor.Utf Go.Proofs.YtfgogfdbjbnlbaaDoorW.PrintWords Go.Proofs.YtfgogfdbjbnlbaaDoorW.PrintLast Go.Proofs.YtfgogfdbjbnlbaaDoorW.PrintMore
set_option linter.unusedVariables false
set_option linter.unusedSimpArgs false
def sCol : ByteArray := ⟨#[58]⟩
def castS (s nm : ByteArray) : ByteArray := sOpen ++ s ++ (sShut ++ (sCol ++ (sCol ++ nm)))
structure NmOk (nm : ByteArray) : Prop where
  run : Run nm [] 0 0 [⟨2, nm, 0⟩]
  low : lowS nm = nm
  quo : ¬ nm = sQuote
  res : hasB kept8 nm = false
  size : nm.size ≤ 20
theorem castS_size (s nm : ByteArray) : (castS s nm).size = s.size + 4 + nm.size := by
  unfold castS
  simp only [ByteArray.size_append]
  have e1 : sOpen.size = 1 := rfl
  have e2 : sShut.size = 1 := rfl
  have e3 : sCol.size = 1 := rfl
  omega
theorem run_cast {s nm : ByteArray} {l : List Pt} (h : Run s [] 0 0 l) (hn : Run nm [] 0 0 [⟨2, nm, 0⟩]) : Run (castS s nm) [] 0 0 (⟨3, sOpen, 0⟩ :: (l.map (shP 1) ++ [⟨3, sShut, s.size + 1⟩, ⟨3, sCol, s.size + 2⟩, ⟨3, sCol, s.size + 3⟩, ⟨2, nm, s.size + 4⟩])) := by
  have h1 := run_first _ 58 (by decide) (by decide) hn
  have h2 := run_first _ 58 (by decide) (by decide) h1
  have h3 := run_sign s _ 41 (by decide) (by decide) h h2
  have h4 := run_first _ 40 (by decide) (by decide) h3
  rw [List.map_append] at h4
  unfold castS
  rw [append_assoc3]
  have e : (l.map (shP 1) ++ List.map (shP 1) (⟨3, ⟨#[41]⟩, s.size⟩ :: List.map (shP (s.size + 1 : Nat)) (⟨3, ⟨#[58]⟩, 0⟩ :: List.map (shP 1) (⟨3, ⟨#[58]⟩, 0⟩ :: List.map (shP 1) [⟨2, nm, 0⟩])))) = l.map (shP 1) ++ [⟨3, sShut, s.size + 1⟩, ⟨3, sCol, s.size + 2⟩, ⟨3, sCol, s.size + 3⟩, ⟨2, nm, s.size + 4⟩] := by
    simp only [List.map_cons, List.map_nil, shP]
    congr 1
    have e1 : (0 : Int) + (s.size + 1 : Nat) + 1 = s.size + 2 := by omega
    have e2 : (0 : Int) + 1 + (s.size + 1 : Nat) + 1 = s.size + 3 := by omega
    have e3 : (0 : Int) + 1 + 1 + (s.size + 1 : Nat) + 1 = s.size + 4 := by omega
    rw [e1, e2, e3]
    rfl
  rw [e] at h4
  exact h4
theorem lex_cols (S : ByteArray) (x : Int) (f : Nat) (acc : List Tk) (r : List Pt) : lexL S (f + 1) acc (⟨3, sCol, x⟩ :: ⟨3, sCol, x + 1⟩ :: r) = lexL S f (acc ++ [⟨3, sCast, x⟩]) r := by
  have e : tokenP S ⟨3, sCol, x⟩ (⟨3, sCol, x + 1⟩ :: r) = some (.ok ⟨3, sCast, x⟩ r) := by
    unfold tokenP
    show (if sCol = sQuote then _ else if (3 : Int) = 1 then _ else if (3 : Int) = 2 then _ else _) = _
    rw [if_neg (by decide +kernel), if_neg (by decide), if_neg (by decide)]
    unfold signP
    dsimp only
    rw [if_pos ⟨rfl, by decide +kernel⟩]
    rfl
  rw [lexL, e]
  rfl
theorem lex_name (S nm : ByteArray) (hn : NmOk nm) (x : Int) (f : Nat) (acc : List Tk) : lexL S (f + 1) acc [⟨2, nm, x⟩] = lexL S f (acc ++ [⟨1, nm, x⟩]) [] := by
  have e : tokenP S ⟨2, nm, x⟩ [] = some (.ok ⟨1, nm, x⟩ []) := by
    unfold tokenP
    show (if nm = sQuote then _ else if (2 : Int) = 1 then _ else if (2 : Int) = 2 then some (TRes.ok ⟨1, lowS (nameL x nm []).1, x⟩ (nameL x nm []).2) else _) = _
    rw [if_neg hn.quo, if_neg (by decide), if_pos rfl]
    show some (TRes.ok ⟨1, lowS nm, x⟩ []) = _
    rw [hn.low]
  rw [lexL, e]
  rfl
theorem brackets_lex {s : ByteArray} {l : List Pt} {x : Int} {ts : List Tk} (h0 : word_Split.f s = some (l, x, 0)) (hin : ∀ p, p ∈ l → PartIn s p) (h1 : lexL s (l.length + 1) [] l = some (.toks ts)) (hs : s.size + 2 ≤ 2048) : parseS (sOpen ++ s ++ sShut) = readP (⟨3, sOpen, 0⟩ :: (ts.map (shT 1) ++ [⟨3, sShut, s.size + 1⟩, lastT (sOpen ++ s ++ sShut)])) := by
  have hsz : (sOpen ++ s ++ sShut).size = s.size + 2 := by
    rw [ByteArray.size_append, ByteArray.size_append]
    have e1 : sOpen.size = 1 := rfl
    have e2 : sShut.size = 1 := rfl
    omega
  have hsp := split_of_run (by omega) (run_brackets (split_run h0).2)
  have hz : Behind (sOpen.size + s.size : Nat) [(⟨3, sShut, s.size + 1⟩ : Pt)] := by
    refine ⟨⟨_, _, rfl, rfl, rfl⟩, fun q hq => ?_⟩
    rw [List.mem_singleton.1 hq]
    have e1 : sOpen.size = 1 := rfl
    show ((sOpen.size + s.size : Nat) : Int) ≤ (s.size : Int) + 1
    omega
  obtain ⟨ts0, g, e0, hg, hlx⟩ := lex_emb sOpen s sShut (by have := hasQ_shut noS; rwa [noS_right] at this) _ hz (l.length + 1) [] l ts hin h1
  rw [List.nil_append] at e0
  subst e0
  obtain ⟨r, hr⟩ : ∃ r, l.length = g + r := ⟨l.length - g, by omega⟩
  have e1 : (sOpen.size : Int) = 1 := rfl
  rw [e1] at hlx
  have hlex : lexL (sOpen ++ s ++ sShut) ((⟨3, sOpen, 0⟩ :: (l.map (shP 1) ++ [(⟨3, sShut, s.size + 1⟩ : Pt)])).length + 1) [] (⟨3, sOpen, 0⟩ :: (l.map (shP 1) ++ [(⟨3, sShut, s.size + 1⟩ : Pt)])) = some (.toks (⟨3, sOpen, 0⟩ :: (ts.map (shT 1) ++ [⟨3, sShut, s.size + 1⟩]))) := by
    have hn : (⟨3, sOpen, 0⟩ :: (l.map (shP 1) ++ [(⟨3, sShut, s.size + 1⟩ : Pt)])).length + 1 = (r + 1 + 1 + g) + 1 := by
      rw [List.length_cons, List.length_append, List.length_map, List.length_singleton]
      omega
    rw [hn]
    have a1 := lex_sign (sOpen ++ s ++ sShut) 40 0 (by decide) (r + 1 + 1 + g) [] (l.map (shP 1) ++ [(⟨3, sShut, s.size + 1⟩ : Pt)])
    have a2 := hlx (r + 1 + 1) ([] ++ [⟨3, ⟨#[40]⟩, 0⟩])
    have a3 := lex_sign (sOpen ++ s ++ sShut) 41 (s.size + 1) (by decide) (r + 1) ([] ++ [⟨3, ⟨#[40]⟩, 0⟩] ++ ts.map (shT 1)) []
    exact a1.trans (a2.trans (a3.trans (by rw [lexL, List.nil_append, List.append_assoc]; rfl)))
  rw [parseS_of hsp hlex, List.cons_append, List.append_assoc]
  rfl
theorem cast_lex {s nm : ByteArray} {l : List Pt} {x : Int} {ts : List Tk} (hn : NmOk nm) (h0 : word_Split.f s = some (l, x, 0)) (hin : ∀ p, p ∈ l → PartIn s p) (h1 : lexL s (l.length + 1) [] l = some (.toks ts)) (hs : s.size + 24 ≤ 2048) : parseS (castS s nm) = readP (⟨3, sOpen, 0⟩ :: (ts.map (shT 1) ++ [⟨3, sShut, s.size + 1⟩, ⟨3, sCast, s.size + 2⟩, ⟨1, nm, s.size + 4⟩, lastT (castS s nm)])) := by
  have hsz := castS_size s nm
  have hns := hn.size
  have hsp := split_of_run (by omega) (run_cast (split_run h0).2 hn.run)
  have hz : Behind (sOpen.size + s.size : Nat) [(⟨3, sShut, s.size + 1⟩ : Pt), ⟨3, sCol, s.size + 2⟩, ⟨3, sCol, s.size + 3⟩, ⟨2, nm, s.size + 4⟩] := by
    refine ⟨⟨_, _, rfl, rfl, rfl⟩, fun q hq => ?_⟩
    have e1 : sOpen.size = 1 := rfl
    simp only [List.mem_cons, List.not_mem_nil, or_false] at hq
    rcases hq with rfl | rfl | rfl | rfl
    · show ((sOpen.size + s.size : Nat) : Int) ≤ (s.size : Int) + 1
      omega
    · show ((sOpen.size + s.size : Nat) : Int) ≤ (s.size : Int) + 2
      omega
    · show ((sOpen.size + s.size : Nat) : Int) ≤ (s.size : Int) + 3
      omega
    · show ((sOpen.size + s.size : Nat) : Int) ≤ (s.size : Int) + 4
      omega
  obtain ⟨ts0, g, e0, hg, hlx⟩ := lex_emb sOpen s (sShut ++ (sCol ++ (sCol ++ nm))) (hasQ_shut _) _ hz (l.length + 1) [] l ts hin h1
  rw [List.nil_append] at e0
  subst e0
  obtain ⟨r, hr⟩ : ∃ r, l.length = g + r := ⟨l.length - g, by omega⟩
  have e1 : (sOpen.size : Int) = 1 := rfl
  rw [e1] at hlx
  have hlex : lexL (castS s nm) ((⟨3, sOpen, 0⟩ :: (l.map (shP 1) ++ [(⟨3, sShut, s.size + 1⟩ : Pt), ⟨3, sCol, s.size + 2⟩, ⟨3, sCol, s.size + 3⟩, ⟨2, nm, s.size + 4⟩])).length + 1) [] (⟨3, sOpen, 0⟩ :: (l.map (shP 1) ++ [(⟨3, sShut, s.size + 1⟩ : Pt), ⟨3, sCol, s.size + 2⟩, ⟨3, sCol, s.size + 3⟩, ⟨2, nm, s.size + 4⟩])) = some (.toks (⟨3, sOpen, 0⟩ :: (ts.map (shT 1) ++ [⟨3, sShut, s.size + 1⟩, ⟨3, sCast, s.size + 2⟩, ⟨1, nm, s.size + 4⟩]))) := by
    have hn' : (⟨3, sOpen, 0⟩ :: (l.map (shP 1) ++ [(⟨3, sShut, s.size + 1⟩ : Pt), ⟨3, sCol, s.size + 2⟩, ⟨3, sCol, s.size + 3⟩, ⟨2, nm, s.size + 4⟩])).length + 1 = (r + 2 + 1 + 1 + 1 + g) + 1 := by
      rw [List.length_cons, List.length_append, List.length_map]
      show l.length + 4 + 1 + 1 = _
      omega
    rw [hn']
    refine (lex_sign (castS s nm) 40 0 (by decide) (r + 2 + 1 + 1 + 1 + g) [] _).trans ?_
    refine (hlx (r + 2 + 1 + 1 + 1) _).trans ?_
    refine (lex_sign (castS s nm) 41 (s.size + 1) (by decide) (r + 2 + 1 + 1) _ _).trans ?_
    have e3 : (⟨3, sCol, (s.size : Int) + 3⟩ : Pt) = ⟨3, sCol, (s.size : Int) + 2 + 1⟩ := by
      rw [show (s.size : Int) + 3 = (s.size : Int) + 2 + 1 by omega]
    rw [e3]
    refine (lex_cols (castS s nm) (s.size + 2) (r + 2 + 1) _ _).trans ?_
    refine (lex_name (castS s nm) nm hn (s.size + 4) (r + 2) _).trans ?_
    rw [lexL]
    simp only [List.nil_append, List.append_assoc, List.cons_append]
    rfl
  rw [parseS_of hsp hlex, List.cons_append, List.append_assoc]
  rfl
theorem cast_parse {s nm : ByteArray} {n m : Nd} {pos pos' : Int} (hn : NmOk nm) (h : parseS s = some (n, pos, 0)) (hs : s.size + 30 ≤ 2048) (hb : parseS (sOpen ++ s ++ sShut) = some (m, pos', 0)) : ∃ n' q, parseS (castS s nm) = some (⟨10, nm, [n'], q⟩, 0, 0) ∧ strip n' = strip n := by
  obtain ⟨l, x, ts, e, h0, hin, hle, h1, h2, hlen, he, hp⟩ := parseS_ok h
  rw [brackets_lex h0 hin h1 (by omega)] at hb
  rw [cast_lex hn h0 hin h1 (by omega)]
  have hsz1 : (sOpen ++ s ++ sShut).size = s.size + 2 := by
    rw [ByteArray.size_append, ByteArray.size_append]
    have e1 : sOpen.size = 1 := rfl
    have e2 : sShut.size = 1 := rfl
    omega
  have hsz2 := castS_size s nm
  have hTk : ∀ (S : ByteArray), s.size + 2 ≤ S.size → ∀ t, t ∈ ts.map (shT 1) → TkIn S t := by
    intro S hS t ht
    obtain ⟨t', ht', rfl⟩ := List.mem_map.1 ht
    obtain ⟨q1, q2, q3⟩ := h2 t' ht'
    exact ⟨q1, by show 0 ≤ t'.f2 + 1; omega, by show t'.f2 + 1 < (S.size : Nat); omega⟩
  obtain ⟨Y1, hY1⟩ := parse_total (sOpen ++ s ++ sShut) (ts.map (shT 1) ++ [⟨3, sShut, s.size + 1⟩]) (fun t ht => by
    rcases List.mem_append.1 ht with q | q
    · exact hTk _ (by omega) t q
    · rw [List.mem_singleton.1 q]
      exact ⟨by show (3 : Int) ≠ 4; decide, by show 0 ≤ (s.size : Int) + 1; omega, by show (s.size : Int) + 1 < ((sOpen ++ s ++ sShut).size : Nat); omega⟩) (by rw [List.length_append, List.length_map, List.length_singleton]; omega)
  obtain ⟨Y2, hY2⟩ := parse_total (castS s nm) (ts.map (shT 1) ++ [⟨3, sShut, s.size + 1⟩, ⟨3, sCast, s.size + 2⟩, ⟨1, nm, s.size + 4⟩]) (fun t ht => by
    rcases List.mem_append.1 ht with q | q
    · exact hTk _ (by omega) t q
    · simp only [List.mem_cons, List.not_mem_nil, or_false] at q
      have hns : 0 < nm.size := by
        have := hn.run
        rcases Nat.eq_zero_or_pos nm.size with q0 | q0
        · exfalso
          cases this with
          | step _ _ _ _ h => omega
        · exact q0
      rcases q with rfl | rfl | rfl
      · exact ⟨by show (3 : Int) ≠ 4; decide, by show 0 ≤ (s.size : Int) + 1; omega, by show (s.size : Int) + 1 < ((castS s nm).size : Nat); omega⟩
      · exact ⟨by show (3 : Int) ≠ 4; decide, by show 0 ≤ (s.size : Int) + 2; omega, by show (s.size : Int) + 2 < ((castS s nm).size : Nat); omega⟩
      · exact ⟨by show (1 : Int) ≠ 4; decide, by show 0 ≤ (s.size : Int) + 4; omega, by show (s.size : Int) + 4 < ((castS s nm).size : Nat); omega⟩) (by rw [List.length_append, List.length_map]; show ts.length + 3 ≤ _; omega)
  obtain ⟨X, hX⟩ := parse_total s ts h2 (by omega)
  rw [List.append_assoc] at hY1 hY2
  have hlast : ∀ t ∈ ts, t.f0 ≠ 4 := fun t ht => (h2 t ht).1
  have hs0 := sm_self (e := lastT s) rfl ts hlast
  have hs1 := sm_map [(⟨3, sShut, s.size + 1⟩ : Tk), lastT (sOpen ++ s ++ sShut)] 1 (lastT s) rfl ts hlast
  have hs2 := sm_map [(⟨3, sShut, s.size + 1⟩ : Tk), ⟨3, sCast, s.size + 2⟩, ⟨1, nm, s.size + 4⟩, lastT (castS s nm)] 1 (lastT s) rfl ts hlast
  have he2 : e = lastT s := by
    have q0 := parse_sim (shuts_last (e := lastT s) rfl) 5000 5000 0 0 0 _ _ hs0 _ _ hp hp
    have q := q0.2
    cases q with
    | fin _ _ => rfl
    | more _ _ _ _ h4 => exact absurd he h4
  subst he2
  -- the brackets alone are read
  have hk1 : ∃ n1 r1, Y1 = .ok n1 r1 := by
    cases Y1 with
    | ok n1 r1 => exact ⟨n1, r1, rfl⟩
    | bad w p =>
      exfalso
      have q1 := parse_sim (shuts_shut (u := (⟨3, sShut, s.size + 1⟩ : Tk)) rfl _) 5000 4990 0 0 1 _ _ hs1 _ _ hp hY1
      have q1' : w = 31 := q1
      subst q1'
      have hw := whole_brackets (t := ⟨3, sOpen, 0⟩) (k' := 4990) rfl rfl rfl rfl rfl hs1 hp rfl ⟨_, hY1⟩
      rcases hw with ⟨n', _, q⟩ | ⟨p', q⟩
      · obtain ⟨w', hw', p'', e''⟩ := open_bad (k := 4990) (d := 0) (t := ⟨3, sOpen, 0⟩) (l := ts.map (shT 1) ++ [(⟨3, sShut, s.size + 1⟩ : Tk), lastT (sOpen ++ s ++ sShut)]) rfl rfl (by simp) (fun _ => hY1)
        have hw2 : w' = 31 := by omega
        subst hw2
        have e4 : parse (4990 + 6) 4 0 (⟨3, sOpen, 0⟩ :: (ts.map (shT 1) ++ [(⟨3, sShut, s.size + 1⟩ : Tk), lastT (sOpen ++ s ++ sShut)])) = some (.bad 31 p'') := bind_bad (bad5 rfl e'')
        have e5 := bad0 (k := 4990 + 5) rfl e4
        rw [e5] at q
        cases q
      · rw [readP_bad q] at hb
        simp at hb
  obtain ⟨n1, r1, hk⟩ := hk1
  obtain ⟨n2, r2, hk2⟩ := depth_same (d := 1) (e := lastT s) rfl hs0 (shuts_shut (u := (⟨3, sShut, s.size + 1⟩ : Tk)) rfl _) (shuts_shut (u := (⟨3, sShut, s.size + 1⟩ : Tk)) rfl _) hs1 hs2 hp hX hY1 hY2 hk
  rcases whole_cast (t := ⟨3, sOpen, 0⟩) (k' := 4989) rfl rfl rfl rfl rfl rfl rfl hn.res rfl hs2 hp rfl hY2 with ⟨n', hs', q⟩ | ⟨p, q⟩
  · exact ⟨n', _, readP_ok q rfl, hs'⟩
  · rw [hk2] at q
    cases q
end Go.Proofs.YtfgogfdbjbnlbaaDoor.PExpr
end
section
namespace Go.Proofs.YtfgogfdbjbnlbaaDoor.PExpr
open Go.RowKit Go.Proofs.YtfgogfdbjbnlbaaDoorW.PrintWords Go.Proofs.YtfgogfdbjbnlbaaDoorW.PrintLast Go.Proofs.YtfgogfdbjbnlbaaDoorW.PrintMore
set_option linter.unusedVariables false
set_option linter.unusedSimpArgs false
inductive Fine : Nat → Nd → Prop
  | mk (D : Nat) (n : Nd) (hl : n.f2.length ≤ 6000) (hc : n.f0 = 10 → n.f1.size ≤ 10000000) (h5 : n.f0 = 5 → hasB types4 n.f1 = true) (hk : ∀ m, m ∈ n.f2 → Fine D m) : Fine (D + 1) n
theorem Fine.mono : ∀ {D D' : Nat} {n : Nd}, Fine D n → D ≤ D' → Fine D' n
  | _, D', n, .mk D _ hl hc h5 hk, h => by
    obtain ⟨e, rfl⟩ : ∃ e, D' = e + 1 := ⟨D' - 1, by omega⟩
    exact .mk e n hl hc h5 (fun m hm => (hk m hm).mono (by omega))
def TkF (t : Tk) : Prop := t.f0 = 1 → t.f1.size ≤ 10000000
def FineO (B : Nat) : Option Res → Prop
  | some (.ok n r) => (∃ D, Fine D n ∧ D + r.length ≤ B) ∧ ∀ t, t ∈ r → TkF t
  | _ => True
theorem FineO.mono {B B' : Nat} {r : Option Res} (h : FineO B r) (hB : B ≤ B') : FineO B' r := by
  cases r with
  | none => trivial
  | some r =>
    cases r with
    | bad w p => trivial
    | ok n r =>
      obtain ⟨⟨D, h1, h2⟩, h3⟩ := h
      exact ⟨⟨D, h1, by omega⟩, h3⟩
theorem FineO.next {B B' : Nat} {a : Option Res} {f : Nd → List Tk → Option Res} (h : FineO B a) (hf : ∀ n r D, Fine D n → D + r.length ≤ B → (∀ t, t ∈ r → TkF t) → FineO B' (f n r)) : FineO B' (a.bind fun n => n.then f) := by
  cases a with
  | none => trivial
  | some a =>
    cases a with
    | bad w p => trivial
    | ok n r =>
      obtain ⟨⟨D, h1, h2⟩, h3⟩ := h
      exact hf n r D h1 h2 h3
theorem FineO.ite {B : Nat} {c : Prop} [Decidable c] {a b : Option Res} (ha : c → FineO B a) (hb : ¬ c → FineO B b) : FineO B (if c then a else b) := by
  by_cases h : c
  · rw [if_pos h]
    exact ha h
  · rw [if_neg h]
    exact hb h
theorem FineO.no (B : Nat) : FineO B none := trivial
theorem FineO.bad (B : Nat) (w p : Int) : FineO B (some (.bad w p)) := trivial
theorem fine2 {k : Int} {s : ByteArray} {n m : Nd} {p : Int} {D E : Nat} (h : k ≠ 10 ∧ k ≠ 5) (hn : Fine D n) (hm : Fine E m) : Fine (max D E + 1) ⟨k, s, [n, m], p⟩ :=
  .mk _ _ (show 2 ≤ 6000 by decide) (fun q => absurd q h.1) (fun q => absurd q h.2) fun x hx => by
    have hx' : x ∈ [n, m] := hx
    simp only [List.mem_cons, List.not_mem_nil, or_false] at hx'
    rcases hx' with rfl | rfl
    · exact hn.mono (Nat.le_max_left _ _)
    · exact hm.mono (Nat.le_max_right _ _)
theorem fine1 {k : Int} {s : ByteArray} {n : Nd} {p : Int} {D : Nat} (h : k = 10 → s.size ≤ 10000000) (h5 : k = 5 → hasB types4 s = true) (hn : Fine D n) : Fine (D + 1) ⟨k, s, [n], p⟩ :=
  .mk _ _ (show 1 ≤ 6000 by decide) h h5 fun x hx => by
    have hx' : x ∈ [n] := hx
    simp only [List.mem_cons, List.not_mem_nil, or_false] at hx'
    rw [hx']
    exact hn
theorem fine0 {k : Int} {s : ByteArray} {p : Int} (h : k ≠ 10 ∧ k ≠ 5) : Fine 1 ⟨k, s, [], p⟩ := .mk 0 _ (show 0 ≤ 6000 by decide) (fun q => absurd q h.1) (fun q => absurd q h.2) fun x hx => by cases hx
section
variable {part : List Tk → Option Res} (hp : ∀ l : List Tk, (∀ t, t ∈ l → TkF t) → l.length ≤ 6000 → FineO l.length (part l))
include hp
theorem rowL_fine {ss : List ByteArray} : ∀ (k : Nat) (n : Nd) (l : List Tk) (D B : Nat), Fine D n → D + l.length ≤ B → (∀ t, t ∈ l → TkF t) → l.length ≤ 6000 → FineO B (rowL part ss k n l)
  | 0, n, l, D, B, _, _, _, _ => .no _
  | k + 1, n, [], D, B, _, _, _, _ => .no _
  | k + 1, n, t :: r, D, B, hn, hB, hl, h6 => by
    unfold rowL
    rw [List.length_cons] at hB h6
    have hr : ∀ u, u ∈ r → TkF u := fun u hu => hl u (by simp [hu])
    refine .ite (fun _ => .ite (fun _ => .no _) (fun _ => (hp r hr (by omega)).next (fun m l' E hm hE hl' => ?_))) (fun _ => ?_)
    · exact rowL_fine k _ l' _ B (fine2 (by decide) hn hm) (by omega) hl' (by omega)
    · exact ⟨⟨D, hn, by rw [List.length_cons]; omega⟩, hl⟩
theorem rowP_fine {ss : List ByteArray} (k : Nat) (l : List Tk) (hl : ∀ t, t ∈ l → TkF t) (h6 : l.length ≤ 6000) : FineO l.length (rowP part ss k l) := by
  unfold rowP
  exact (hp l hl h6).next fun n r D hn hD hr => rowL_fine hp k n r D _ hn hD hr (by omega)
theorem cmpP_fine (l : List Tk) (hl : ∀ t, t ∈ l → TkF t) (h6 : l.length ≤ 6000) : FineO l.length (cmpP part l) := by
  unfold cmpP
  refine (hp l hl h6).next fun n q D hn hD hq => ?_
  cases q with
  | nil => exact .no _
  | cons t r =>
    dsimp only
    rw [List.length_cons] at hD
    have hr : ∀ u, u ∈ r → TkF u := fun u hu => hq u (by simp [hu])
    refine .ite (fun _ => .ite (fun _ => .no _) (fun _ => (hp r hr (by omega)).next (fun m l' E hm hE hl' => ?_))) (fun _ => ?_)
    · exact ⟨⟨_, fine2 (by decide) hn hm, by omega⟩, hl'⟩
    · exact ⟨⟨D, hn, by rw [List.length_cons]; omega⟩, hq⟩
end
theorem prefixP_fine {again other : Int → List Tk → Option Res} {kind : Int} {s : ByteArray} (hk : kind ≠ 10 ∧ kind ≠ 5) (ha : ∀ d (l : List Tk), (∀ t, t ∈ l → TkF t) → l.length ≤ 6000 → FineO l.length (again d l)) (ho : ∀ d (l : List Tk), (∀ t, t ∈ l → TkF t) → l.length ≤ 6000 → FineO l.length (other d l)) (d : Int) (l : List Tk) (hl : ∀ t, t ∈ l → TkF t) (h6 : l.length ≤ 6000) : FineO l.length (prefixP again other kind s d l) := by
  cases l with
  | nil => exact .no _
  | cons t r =>
    unfold prefixP
    dsimp only
    have hr : ∀ u, u ∈ r → TkF u := fun u hu => hl u (by simp [hu])
    have h6' := h6
    rw [List.length_cons] at h6'
    refine .ite (fun _ => .ite (fun _ => .no _) (fun _ => .ite (fun _ => .bad _ _ _) (fun _ => (ha _ r hr (by omega)).next (fun m l' E hm hE hl' => ?_)))) (fun _ => ho d _ hl h6)
    exact ⟨⟨_, fine1 (fun q => absurd q hk.1) (fun q => absurd q hk.2) hm, by rw [List.length_cons]; omega⟩, hl'⟩
theorem wantP_fine {B : Nat} {s : ByteArray} {l : List Tk} {f : List Tk → Option Res} (hl : ∀ t, t ∈ l → TkF t) (hf : ∀ r, (∀ t, t ∈ r → TkF t) → r.length + 1 = l.length → FineO B (f r)) : FineO B (wantP s l f) := by
  cases l with
  | nil => exact .no _
  | cons t r =>
    unfold wantP
    dsimp only
    exact .ite (fun _ => .ite (fun _ => .no _) (fun _ => hf r (fun u hu => hl u (by simp [hu])) rfl)) (fun _ => .bad _ _ _)
theorem takeP_fine {B : Nat} {l : List Tk} {f : Tk → List Tk → Option Res} (hl : ∀ t, t ∈ l → TkF t) (h4 : ∀ t, t.f0 = 4 → FineO B (f t l)) (hf : ∀ t r, TkF t → (∀ u, u ∈ r → TkF u) → r.length + 1 = l.length → FineO B (f t r)) : FineO B (takeP l f) := by
  cases l with
  | nil => exact .no _
  | cons t r =>
    unfold takeP
    dsimp only
    exact .ite (fun h => h4 t h) (fun _ => .ite (fun _ => .no _) (fun _ => hf t r (hl t (by simp)) (fun u hu => hl u (by simp [hu])) rfl))
theorem zoneL_fine {cast : List Tk → Option Res} (hp : ∀ l : List Tk, (∀ t, t ∈ l → TkF t) → l.length ≤ 6000 → FineO l.length (cast l)) : ∀ (k : Nat) (n : Nd) (l : List Tk) (D B : Nat), Fine D n → D + l.length ≤ B → (∀ t, t ∈ l → TkF t) → l.length ≤ 6000 → FineO B (zoneL cast k n l)
  | 0, n, l, D, B, _, _, _, _ => .no _
  | k + 1, n, [], D, B, _, _, _, _ => .no _
  | k + 1, n, t :: r, D, B, hn, hB, hl, h6 => by
    unfold zoneL
    rw [List.length_cons] at hB h6
    have hr : ∀ u, u ∈ r → TkF u := fun u hu => hl u (by simp [hu])
    refine .ite (fun _ => .ite (fun _ => .no _) (fun _ => wantP_fine hr (fun r1 hr1 e1 => wantP_fine hr1 (fun r2 hr2 e2 => (hp r2 hr2 (by omega)).next (fun m l' E hm hE hl' => ?_))))) (fun _ => ?_)
    · exact zoneL_fine hp k _ l' _ B (fine2 (by decide) hn hm) (by omega) hl' (by omega)
    · exact ⟨⟨D, hn, by rw [List.length_cons]; omega⟩, hl⟩
theorem castL_fine : ∀ (k : Nat) (n : Nd) (l : List Tk) (D B : Nat), Fine D n → D + l.length ≤ B → (∀ t, t ∈ l → TkF t) → FineO B (castL k n l)
  | 0, n, l, D, B, _, _, _ => .no _
  | k + 1, n, [], D, B, _, _, _ => .no _
  | k + 1, n, t :: r, D, B, hn, hB, hl => by
    unfold castL
    rw [List.length_cons] at hB
    have hr : ∀ u, u ∈ r → TkF u := fun u hu => hl u (by simp [hu])
    refine .ite (fun _ => .ite (fun _ => .no _) (fun _ => takeP_fine hr (fun u hu => ?_) (fun u r1 hu hr1 e1 => ?_))) (fun _ => ?_)
    · rw [if_pos (Or.inl (by omega))]
      exact .bad _ _ _
    · refine .ite (fun _ => .bad _ _ _) (fun hc => ?_)
      exact castL_fine k _ r1 _ B (fine1 (fun _ => hu (by
        by_cases q : u.f0 = 1
        · exact q
        · exact absurd (Or.inl q) hc)) (fun q => absurd q (by decide)) hn) (by omega) hr1
    · exact ⟨⟨D, hn, by rw [List.length_cons]; omega⟩, hl⟩
theorem argsL_fine {B : Nat} (h6 : B ≤ 6000) {part : List Tk → Option Res} {f : List Nd → List Tk → Option Res} (hp : ∀ l : List Tk, (∀ t, t ∈ l → TkF t) → l.length ≤ 6000 → FineO l.length (part l)) (hf : ∀ ns r D, (∀ x, x ∈ ns → Fine D x) → ns.length + r.length ≤ B → D + r.length + 1 ≤ B → (∀ t, t ∈ r → TkF t) → FineO B (f ns r)) : ∀ (k : Nat) (ns : List Nd) (l : List Tk) (D : Nat), (∀ x, x ∈ ns → Fine D x) → ns.length + l.length ≤ B → D + l.length ≤ B → (∀ t, t ∈ l → TkF t) → FineO B (argsL part k ns l f)
  | 0, ns, l, D, _, _, _, _ => .no _
  | k + 1, ns, [], D, _, _, _, _ => .no _
  | k + 1, ns, t :: r, D, hn, hB, hD, hl => by
    unfold argsL
    rw [List.length_cons] at hB hD
    have hr : ∀ u, u ∈ r → TkF u := fun u hu => hl u (by simp [hu])
    refine .ite (fun _ => .ite (fun _ => .no _) (fun _ => (hp r hr (by omega)).next (fun m l' E hm hE hl' => ?_))) (fun _ => ?_)
    · have hE1 : 1 ≤ E := by cases hm; omega
      refine argsL_fine h6 hp hf k _ l' (max D E) (fun x hx => ?_) (by rw [List.length_append, List.length_singleton]; omega) (by omega) hl'
      rcases List.mem_append.1 hx with q | q
      · exact (hn x q).mono (Nat.le_max_left _ _)
      · rw [List.mem_singleton.1 q]
        exact hm.mono (Nat.le_max_right _ _)
    · refine wantP_fine hl (fun r1 hr1 e1 => hf ns r1 D hn ?_ ?_ hr1)
      · rw [List.length_cons] at e1
        omega
      · rw [List.length_cons] at e1
        omega
theorem argsP_fine {B : Nat} (h6 : B ≤ 6000) {part : List Tk → Option Res} {f : List Nd → List Tk → Option Res} (hp : ∀ l : List Tk, (∀ t, t ∈ l → TkF t) → l.length ≤ 6000 → FineO l.length (part l)) (hf : ∀ ns r D, (∀ x, x ∈ ns → Fine D x) → ns.length + r.length ≤ B → D + r.length + 1 ≤ B → (∀ t, t ∈ r → TkF t) → FineO B (f ns r)) (k : Nat) (l : List Tk) (hB : l.length + 1 ≤ B) (hl : ∀ t, t ∈ l → TkF t) : FineO B (argsP part k l f) := by
  cases l with
  | nil => exact .no _
  | cons t r =>
    unfold argsP
    dsimp only
    have hB' := hB
    rw [List.length_cons] at hB'
    have hr : ∀ u, u ∈ r → TkF u := fun u hu => hl u (by simp [hu])
    refine .ite (fun _ => .ite (fun _ => .no _) (fun _ => hf [] r 0 (fun x hx => by cases hx) (by simp; omega) (by omega) hr)) (fun _ => ?_)
    refine (hp _ hl (by omega)).next (fun m l' E hm hE hl' => ?_)
    have hE1 : 1 ≤ E := by cases hm; omega
    refine argsL_fine h6 hp hf k [m] l' E (fun x hx => ?_) (by rw [List.length_singleton]; omega) (by omega) hl'
    rw [List.mem_singleton.1 hx]
    exact hm
theorem namedP_fine {or : Int → List Tk → Option Res} (hp : ∀ d (l : List Tk), (∀ t, t ∈ l → TkF t) → l.length ≤ 6000 → FineO l.length (or d l)) (k : Nat) (d : Int) (t : Tk) (l : List Tk) (hl : ∀ t, t ∈ l → TkF t) (h6 : l.length + 1 ≤ 6000) : FineO (l.length + 1) (namedP or k d t l) := by
  cases l with
  | nil => exact .no _
  | cons u r =>
    unfold namedP
    dsimp only
    have hr : ∀ u, u ∈ r → TkF u := fun u hu => hl u (by simp [hu])
    refine .ite (fun h5 => .ite (fun _ => .no _) (fun _ => ⟨⟨2, fine1 (fun q => absurd q (by decide)) (fun _ => h5.2) (fine0 (by decide)), by rw [List.length_cons]; omega⟩, hr⟩)) (fun _ => ?_)
    refine wantP_fine hl (fun r1 hr1 e1 => .ite (fun _ => .bad _ _ _) (fun _ => ?_))
    refine argsP_fine h6 (hp (d + 1)) (fun ns r D hns h1 h2 hr => ?_) k r1 (by omega) hr1
    exact ⟨⟨D + 1, .mk D _ (show ns.length ≤ 6000 by omega) (fun q => absurd (show (9 : Int) = 10 from q) (by decide)) (fun q => absurd (show (9 : Int) = 5 from q) (by decide)) hns, by omega⟩, hr⟩
theorem primP_fine {or : Int → List Tk → Option Res} (hp : ∀ d (l : List Tk), (∀ t, t ∈ l → TkF t) → l.length ≤ 6000 → FineO l.length (or d l)) (k : Nat) (d : Int) (l : List Tk) (hl : ∀ t, t ∈ l → TkF t) (h6 : l.length ≤ 6000) : FineO l.length (primP or k d l) := by
  unfold primP
  refine takeP_fine hl (fun t h4 => ?_) (fun t r ht hr e1 => ?_)
  · rw [if_neg (by omega), if_neg (by omega), if_neg (by omega), if_neg (by omega), if_neg (by omega)]
    exact .bad _ _ _
  · refine .ite (fun _ => ⟨⟨1, fine0 (by split <;> decide), by omega⟩, hr⟩) (fun _ => .ite (fun _ => ⟨⟨1, fine0 (by decide), by omega⟩, hr⟩) (fun _ => .ite (fun _ => .ite (fun _ => .bad _ _ _) (fun _ => ?_)) (fun _ => .ite (fun _ => ⟨⟨1, fine0 (by decide), by omega⟩, hr⟩) (fun _ => .ite (fun _ => ?_) (fun _ => .bad _ _ _)))))
    · refine (hp _ r hr (by omega)).next (fun m l' E hm hE hl' => wantP_fine hl' (fun r1 hr1 e2 => ⟨⟨E, hm, by omega⟩, hr1⟩))
    · exact (namedP_fine hp k d t r hr (by omega)).mono (by omega)
theorem parse_fine : ∀ (k lev : Nat) (d : Int) (l : List Tk), (∀ t, t ∈ l → TkF t) → l.length ≤ 6000 → FineO l.length (parse k lev d l)
  | 0, lev, d, l, _, _ => .no _
  | k + 1, lev, d, l, hl, h6 => by
    have ih : ∀ m d (l : List Tk), (∀ t, t ∈ l → TkF t) → l.length ≤ 6000 → FineO l.length (parse k m d l) := fun m d l h1 h2 => parse_fine k m d l h1 h2
    match lev with
    | 0 => exact rowP_fine (ih 1 d) k l hl h6
    | 1 => exact rowP_fine (ih 2 d) k l hl h6
    | 2 => exact prefixP_fine (by decide) (ih 2) (ih 3) d l hl h6
    | 3 => exact cmpP_fine (ih 4 d) l hl h6
    | 4 => exact rowP_fine (ih 5 d) k l hl h6
    | 5 => exact rowP_fine (ih 6 d) k l hl h6
    | 6 => exact prefixP_fine (by decide) (ih 6) (ih 7) d l hl h6
    | 7 =>
      show FineO l.length (zoneP (parse k 8 d) k l)
      unfold zoneP
      exact (ih 8 d l hl h6).next fun n r D hn hD hr => zoneL_fine (ih 8 d) k n r D _ hn hD hr (by omega)
    | 8 =>
      show FineO l.length (castP (parse k 9 d) k l)
      unfold castP
      exact (ih 9 d l hl h6).next fun n r D hn hD hr => castL_fine k n r D _ hn hD hr
    | lev + 9 => exact primP_fine (ih 0) k d l hl h6
end Go.Proofs.YtfgogfdbjbnlbaaDoor.PExpr
end
section
namespace Go.Proofs.YtfgogfdbjbnlbaaDoor.PExpr
open Go.RowKit Go.Proofs.YtfgogfdbjbnlbaaDoorW.PrintWords Go.Proofs.YtfgogfdbjbnlbaaDoorW.PrintLast Go.Proofs.YtfgogfdbjbnlbaaDoorW.PrintMore
set_option linter.unusedVariables false
set_option linter.unusedSimpArgs false
theorem name_size (pos : Int) : ∀ (r : List Pt) (t : ByteArray), (∀ q, q ∈ r → q.f1.size ≤ 2048) → (nameL pos t r).1.size ≤ t.size + 2048 * r.length
  | [], t, _ => by simp [nameL]
  | q :: r, t, h => by
    rw [nameL]
    split
    · have h1 := name_size pos r (t ++ q.f1) (fun x hx => h x (by simp [hx]))
      have h2 := h q (by simp)
      rw [ByteArray.size_append] at h1
      rw [List.length_cons]
      omega
    · simp
theorem lowS_size (s : ByteArray) : (lowS s).size = s.size := by
  unfold lowS
  rw [strOfNums_size]
  unfold lowL
  rw [List.length_map]
  simp [bytesOf]
theorem token_fine {s : ByteArray} {p : Pt} {r l : List Pt} {t : Tk} (hp : p.f1.size ≤ 2048) (hr : ∀ q, q ∈ r → q.f1.size ≤ 2048) (hl : r.length ≤ 2048) (h : tokenP s p r = some (.ok t l)) : TkF t := by
  intro h1
  unfold tokenP at h
  split at h
  · obtain ⟨q, _, h2⟩ := Option.map_eq_some_iff.1 h
    cases q with
    | none => cases h2
    | some q =>
      obtain ⟨a, b⟩ := q
      injection h2 with h3 _
      rw [← h3] at h1
      exact absurd (show (2 : Int) = 1 from h1) (by decide)
  · split at h
    · have h2 := Option.some.inj h
      unfold numP at h2
      split at h2
      · split at h2
        · injection h2 with h3 _
          rw [← h3] at h1
          exact absurd (show (0 : Int) = 1 from h1) (by decide)
        · injection h2 with h3 _
          rw [← h3] at h1
          exact absurd (show (0 : Int) = 1 from h1) (by decide)
      · injection h2 with h3 _
        rw [← h3] at h1
        exact absurd (show (0 : Int) = 1 from h1) (by decide)
    · split at h
      · injection Option.some.inj h with h3 _
        rw [← h3]
        show (lowS (nameL p.f2 p.f1 r).1).size ≤ 10000000
        rw [lowS_size]
        have := name_size p.f2 r p.f1 hr
        omega
      · have h2 := Option.some.inj h
        unfold signP at h2
        split at h2
        · split at h2
          · injection h2 with h3 _
            rw [← h3] at h1
            exact absurd (show (3 : Int) = 1 from h1) (by decide)
          · injection h2 with h3 _
            rw [← h3] at h1
            exact absurd (show (3 : Int) = 1 from h1) (by decide)
        · injection h2 with h3 _
          rw [← h3] at h1
          exact absurd (show (3 : Int) = 1 from h1) (by decide)
theorem lex_fine (s : ByteArray) : ∀ (f : Nat) (acc : List Tk) (l : List Pt) (ts : List Tk), (∀ p, p ∈ l → p.f1.size ≤ 2048) → l.length ≤ 2048 → (∀ t, t ∈ acc → TkF t) → lexL s f acc l = some (.toks ts) → ∀ t, t ∈ ts → TkF t
  | 0, acc, l, ts, _, _, _, h => by cases h
  | f + 1, acc, [], ts, _, _, ha, h => by
    have e : some (LexR.toks acc) = some (.toks ts) := h
    injection e with e
    injection e with e
    subst e
    exact ha
  | f + 1, acc, p :: r, ts, hp, hl, ha, h => by
    rw [lexL] at h
    obtain ⟨R, hR, h2⟩ := Option.bind_eq_some_iff.mp h
    rw [List.length_cons] at hl
    cases R with
    | bad w x => cases h2
    | ok t l =>
      have hm := token_mem hR
      refine lex_fine s f (acc ++ [t]) l ts (fun q hq => hp q (List.mem_cons_of_mem _ (hm.1 q hq))) (by have := hm.2; omega) (fun u hu => ?_) h2
      rcases List.mem_append.1 hu with hu | hu
      · exact ha u hu
      · rw [List.mem_singleton.1 hu]
        exact token_fine (hp p (by simp)) (fun q hq => hp q (by simp [hq])) (by omega) hR
theorem parseS_fine {s : ByteArray} {n : Nd} {pos : Int} (h : parseS s = some (n, pos, 0)) : Fine 2100 n := by
  obtain ⟨l, x, ts, e, h0, hin, hle, h1, h2, hlen, he, hp⟩ := parseS_ok h
  obtain ⟨hs, _⟩ := split_run h0
  have ht := lex_fine s _ [] l ts (fun p hp => by
    have := hin p hp
    have h3 := this.1
    have h4 := this.2
    omega) (by omega) (fun t ht => by cases ht) h1
  have hf := parse_fine 5000 0 0 (ts ++ [lastT s]) (fun t hq => by
    rcases List.mem_append.1 hq with q | q
    · exact ht t q
    · rw [List.mem_singleton.1 q]
      exact fun q => absurd (show (4 : Int) = 1 from q) (by decide)) (by rw [List.length_append, List.length_singleton]; omega)
  rw [hp] at hf
  obtain ⟨⟨D, h3, h4⟩, _⟩ := hf
  refine h3.mono ?_
  simp only [List.length_append, List.length_cons, List.length_nil] at h4
  omega
end Go.Proofs.YtfgogfdbjbnlbaaDoor.PExpr
end
section
namespace Go.Proofs.YtfgogfdbjbnlbaaDoor.PExpr
open Go.RowKit Go.Proofs.YtfgogfdbjbnlbaaDoorW.PrintWords Go.Proofs.YtfgogfdbjbnlbaaDoorW.PrintLast Go.Proofs.YtfgogfdbjbnlbaaDoorW.PrintMore
set_option linter.unusedVariables false
set_option linter.unusedSimpArgs false
theorem known_f : computuslaw23_known.f = some true := by kernel_rfl
theorem known_b : (computuslaw23_known.f).bind (fun t => some t) = some true := by rw [known_f]; rfl
end Go.Proofs.YtfgogfdbjbnlbaaDoor.PExpr
end
section
namespace Go.Proofs.YtfgogfdbjbnlbaaDoor.PExpr
open Go.RowKit Go.Proofs.YtfgogfdbjbnlbaaDoorW.PrintWords Go.Proofs.YtfgogfdbjbnlbaaDoorW.PrintLast Go.Proofs.YtfgogfdbjbnlbaaDoorW.PrintMore
set_option linter.unusedVariables false
set_option linter.unusedSimpArgs false
def kDec (c : UInt8) : Int := Lib.indexByte kLets c + 1
def argsS : List (List Int) := (tableL.flatMap fun r => (fieldsB r.f1).map fun s => s.data.toList.dropLast.map kDec).eraseDups
def opsL : List ByteArray := tableL.map (·.f0)
theorem args_ok : ∀ a ∈ argsS, a.all kOk = true := by decide +kernel
theorem dec_let (k : Int) (h : kOk k = true) : kDec (kLet k) = k := by
  have hk : k = 1 ∨ k = 2 ∨ k = 3 ∨ k = 4 ∨ k = 5 ∨ k = 6 ∨ k = 7 ∨ k = 8 := by
    unfold kOk at h
    simp at h
    omega
  rcases hk with rfl | rfl | rfl | rfl | rfl | rfl | rfl | rfl <;> decide
theorem dec_lets (l : List Int) (h : l.all kOk = true) : (l.map kLet).map kDec = l := by
  rw [List.map_map]
  conv => rhs; rw [← List.map_id l]
  exact List.map_congr_left (fun k hk => dec_let k (List.all_eq_true.1 h k hk))
theorem tab_none (op b : ByteArray) : ∀ L : List Row, (∀ r ∈ L, ¬ r.f0 = op) → tabHit op b L = none
  | [], _ => rfl
  | r :: L, h => by rw [tabHit, if_neg (h r (by simp)), tab_none op b L (fun x hx => h x (by simp [hx]))]
theorem row_some (b : ByteArray) : ∀ (S : List ByteArray) (c : UInt8), rowHit b S = some c → ∃ s ∈ S, (cutP s b).2 = true ∧ (cutP s b).1.size = 1
  | [], c, h => by cases h
  | s :: S, c, h => by
    rw [rowHit] at h
    by_cases h1 : (cutP s b).2 = true ∧ (cutP s b).1.size = 1
    · exact ⟨s, by simp, h1⟩
    · rw [if_neg h1] at h
      obtain ⟨x, hx, h2⟩ := row_some b S c h
      exact ⟨x, by simp [hx], h2⟩
theorem tab_some (op b : ByteArray) : ∀ (L : List Row) (c : UInt8), tabHit op b L = some c → ∃ r ∈ L, ∃ s ∈ fieldsB r.f1, (cutP s b).2 = true ∧ (cutP s b).1.size = 1
  | [], c, h => by cases h
  | r :: L, c, h => by
    rw [tabHit] at h
    by_cases h0 : r.f0 = op
    · rw [if_pos h0] at h
      cases hr : rowHit b (fieldsB r.f1) with
      | some c' =>
        obtain ⟨s, hs, h1⟩ := row_some b _ c' hr
        exact ⟨r, by simp, s, hs, h1⟩
      | none =>
        rw [hr] at h
        obtain ⟨x, hx, h2⟩ := tab_some op b L c h
        exact ⟨x, by simp [hx], h2⟩
    · rw [if_neg h0] at h
      obtain ⟨x, hx, h2⟩ := tab_some op b L c h
      exact ⟨x, by simp [hx], h2⟩
theorem cut_init (s b : ByteArray) (h : (cutP s b).2 = true ∧ (cutP s b).1.size = 1) : b.data.toList = s.data.toList.dropLast := by
  obtain ⟨h1, h2⟩ := h
  have hf := cutP_f s b
  revert hf h1 h2
  generalize cutP s b = p
  intro h1 h2 hf
  unfold strings_CutPrefix.f stringslite_CutPrefix.f stringslite_HasPrefix.f at hf
  by_cases hs : (s.size : Int) ≥ (b.size : Int)
  · rw [if_pos hs, if_pos (by omega), if_pos (by omega)] at hf
    simp only [Option.bind_some] at hf
    split at hf
    · rename_i hp
      obtain rfl := Option.some.inj hf
      have hp' : (s.extract 0 b.size).toList = b.toList := by simpa using hp
      have he := (toList_iff _ _).1 hp'
      have hsz : s.size = b.size + 1 := by
        have : (s.extract b.size s.size).size = 1 := by simpa using h2
        simp at this
        omega
      have hl : s.data.toList.length = b.size + 1 := by simpa using hsz
      rw [← he, ByteArray.data_extract, Array.toList_extract, List.dropLast_eq_take, hl]
      simp
    · obtain rfl := Option.some.inj hf
      cases h1
  · rw [if_neg hs] at hf
    obtain rfl := Option.some.inj hf
    cases h1
theorem find_out (op : ByteArray) (l : List Int) (h : l ∉ argsS) : findF op l = (0, false, false) := by
  unfold findF
  by_cases hk : l.all kOk = true
  · rw [if_pos hk]
    cases ht : tabHit op ⟨(l.map kLet).toArray⟩ tableL with
    | none => rfl
    | some c =>
      exfalso
      obtain ⟨r, hr, s, hs, h1⟩ := tab_some op _ tableL c ht
      have h2 := cut_init s _ h1
      have h3 : l.map kLet = s.data.toList.dropLast := h2
      refine h ?_
      unfold argsS
      rw [List.mem_eraseDups, List.mem_flatMap]
      exact ⟨r, hr, List.mem_map.2 ⟨s, hs, by rw [← h3]; exact dec_lets l hk⟩⟩
  · rw [if_neg hk]
end Go.Proofs.YtfgogfdbjbnlbaaDoor.PExpr
end
section
namespace Go.Proofs.YtfgogfdbjbnlbaaDoor.PExpr
open Go.RowKit Go.Proofs.YtfgogfdbjbnlbaaDoorW.PrintWords Go.Proofs.YtfgogfdbjbnlbaaDoorW.PrintLast Go.Proofs.YtfgogfdbjbnlbaaDoorW.PrintMore
set_option linter.unusedVariables false
set_option linter.unusedSimpArgs false
theorem stripsE : ∀ l, strips l = l.map strip
  | [] => rfl
  | n :: l => by
    show strip n :: strips l = _
    rw [stripsE l]
    rfl
theorem stripE (n : Nd) : strip n = ⟨n.f0, n.f1, n.f2.map strip, 0⟩ := by
  cases n
  rw [strip, stripsE]
def nmL : List ByteArray := (kind_names.f).getD []
theorem nmL_len : nmL.length = 8 := by kernel_rfl
def posN (s : ByteArray) : Nat → List ByteArray → Int
  | _, [] => -1
  | n, x :: l => if s.toList = x.toList then (n : Int) else posN s (n + 1) l
theorem idx_l0 (s : ByteArray) : ∀ (d n k : Nat), n + d = 8 → d < k → slices_Index_string_string.l0 k nmL s 8 n = some (posN s n (nmL.drop n)) := by
  intro d
  have hl := nmL_len
  induction d with
  | zero =>
    intro n k hn hk
    obtain ⟨k, rfl⟩ : ∃ m, k = m + 1 := ⟨k - 1, by omega⟩
    simp only [slices_Index_string_string.l0]
    rw [if_neg (by omega), List.drop_eq_nil_of_le (by omega)]
    rfl
  | succ d ih =>
    intro n k hn hk
    obtain ⟨k, rfl⟩ : ∃ m, k = m + 1 := ⟨k - 1, by omega⟩
    have hlt : n < nmL.length := by omega
    have hw : wrap64 ((n : Int) + 1) = ((n + 1 : Nat) : Int) := by
      unfold wrap64
      omega
    have hrd : rdOf ByteArray.empty nmL (n : Int) = nmL[n] := by
      unfold rdOf
      rw [Int.toNat_natCast, List.getD_eq_getElem?_getD, List.getElem?_eq_getElem hlt]
      rfl
    simp only [slices_Index_string_string.l0]
    rw [if_pos (by omega), if_pos (by omega), if_pos (by omega), hrd, hw, List.drop_eq_getElem_cons hlt, posN]
    by_cases h : s.toList = nmL[n].toList
    · rw [if_pos h, if_pos h]
    · rw [if_neg h, if_neg h, ih (n + 1) k (by omega) (by omega)]
theorem posN_bound (s : ByteArray) : ∀ (l : List ByteArray) (n : Nat), -1 ≤ posN s n l ∧ posN s n l < n + l.length
  | [], n => by simp [posN]; omega
  | x :: l, n => by
    rw [posN]
    split
    · simp; omega
    · have := posN_bound s l (n + 1)
      simp
      omega
theorem kind_some (s : ByteArray) (k : Nat) (hk : 20 ≤ k) : kind_Kind.f k s = some (posN s 0 nmL + 1) := by
  have hb := posN_bound s nmL 0
  rw [nmL_len] at hb
  unfold kind_Kind.f slices_Index_string_string.f
  rw [show kind_names.f = some nmL from rfl, Option.bind_some, nmL_len]
  have := idx_l0 s 8 0 k (by omega) (by omega)
  rw [List.drop_zero] at this
  rw [show slices_Index_string_string.l0 k nmL s ((8 : Nat) : Int) 0 = some (posN s 0 nmL) from this, Option.bind_some]
  congr 1
  unfold wrap64
  omega
theorem op_some (k : Int) (s : ByteArray) (l : List Nd) (p : Int) (h : k = 10 → s.size ≤ 10000000) : ∃ o, kind_operation.f k s l p = some o := by
  unfold kind_operation.f
  by_cases h6 : k = 6
  · exact ⟨_, if_pos h6⟩
  rw [if_neg h6]
  by_cases h7 : k = 7
  · exact ⟨_, if_pos h7⟩
  rw [if_neg h7]
  by_cases h10 : k = 10
  · rw [if_pos h10, if_pos (by have := h h10; omega)]
    exact ⟨_, rfl⟩
  · exact ⟨_, if_neg h10⟩
theorem args_some {look : Nd → Option LR} : ∀ (l : List Nd) (acc : List Int), (∀ x, x ∈ l → ∃ R, look x = some R) → acc.length + l.length ≤ 7000 → ∃ R, argsF look l acc = some R
  | [], acc, _, _ => ⟨_, rfl⟩
  | x :: l, acc, h, hl => by
    obtain ⟨R, hR⟩ := h x (by simp)
    rw [List.length_cons] at hl
    rw [argsF, hR]
    cases R with
    | wrong p => exact ⟨_, rfl⟩
    | many k => exact ⟨_, rfl⟩
    | one k =>
      show ∃ R, (if acc.length < 1000000 then argsF look l (acc ++ [k]) else none) = some R
      rw [if_pos (by omega)]
      exact args_some l _ (fun y hy => h y (by simp [hy])) (by rw [List.length_append, List.length_singleton]; omega)
theorem look_some : ∀ (f : Nat) (n : Nd), Fine f n → ∃ R, lookF f n = some R
  | 0, n, h => by cases h
  | f + 1, n, h => by
    cases h with
    | mk _ _ hl hc h5 hk =>
      rw [lookF]
      by_cases h1 : n.f0 = 1
      · exact ⟨_, if_pos h1⟩
      rw [if_neg h1]
      by_cases h2 : n.f0 = 2
      · exact ⟨_, if_pos h2⟩
      rw [if_neg h2]
      by_cases h3 : n.f0 = 3
      · exact ⟨_, if_pos h3⟩
      rw [if_neg h3]
      by_cases h4 : n.f0 = 4
      · exact ⟨_, if_pos h4⟩
      rw [if_neg h4]
      by_cases h5 : n.f0 = 5
      · rw [if_pos h5, kind_some n.f1 20 (Nat.le_refl _)]
        exact ⟨_, rfl⟩
      rw [if_neg h5, if_pos (by omega)]
      obtain ⟨R, hR⟩ := args_some n.f2 [] (fun x hx => look_some f x (hk x hx)) (by rw [List.length_nil]; omega)
      rw [hR, Option.bind_some]
      cases R with
      | inl r => exact ⟨_, rfl⟩
      | inr args =>
        obtain ⟨o, ho⟩ := op_some n.f0 n.f1 n.f2 n.f3 hc
        show ∃ R, (kind_operation.f n.f0 n.f1 n.f2 n.f3).bind _ = some R
        rw [ho]
        exact ⟨_, rfl⟩
theorem args_more {look look' : Nd → Option LR} (h : ∀ x R, look x = some R → look' x = some R) : ∀ (l : List Nd) (acc : List Int) (R : LR ⊕ List Int), argsF look l acc = some R → argsF look' l acc = some R
  | [], acc, R, hR => hR
  | x :: l, acc, R, hR => by
    rw [argsF] at hR ⊢
    obtain ⟨q, hq, h2⟩ := Option.bind_eq_some_iff.mp hR
    rw [h x q hq, Option.bind_some]
    cases q with
    | wrong p => exact h2
    | many k => exact h2
    | one k =>
      have h3 : (if acc.length < 1000000 then argsF look l (acc ++ [k]) else none) = some R := h2
      show (if acc.length < 1000000 then argsF look' l (acc ++ [k]) else none) = some R
      by_cases hl : acc.length < 1000000
      · rw [if_pos hl] at h3 ⊢
        exact args_more h l _ R h3
      · rw [if_neg hl] at h3
        cases h3
theorem look_more : ∀ (f : Nat) (n : Nd) (R : LR), lookF f n = some R → lookF (f + 1) n = some R
  | 0, n, R, h => by cases h
  | f + 1, n, R, h => by
    rw [lookF] at h ⊢
    by_cases h1 : n.f0 = 1
    · rw [if_pos h1] at h ⊢
      exact h
    rw [if_neg h1] at h ⊢
    by_cases h2 : n.f0 = 2
    · rw [if_pos h2] at h ⊢
      exact h
    rw [if_neg h2] at h ⊢
    by_cases h3 : n.f0 = 3
    · rw [if_pos h3] at h ⊢
      exact h
    rw [if_neg h3] at h ⊢
    by_cases h4 : n.f0 = 4
    · rw [if_pos h4] at h ⊢
      exact h
    rw [if_neg h4] at h ⊢
    by_cases h5 : n.f0 = 5
    · rw [if_pos h5] at h ⊢
      exact h
    rw [if_neg h5] at h ⊢
    by_cases hn : n.f2.length ≤ 1000000
    · rw [if_pos hn] at h ⊢
      obtain ⟨q, hq, h2⟩ := Option.bind_eq_some_iff.mp h
      rw [args_more (look_more f) n.f2 [] q hq]
      exact h2
    · rw [if_neg hn] at h
      cases h
def Like : LR → LR → Prop
  | .one a, .one b => a = b
  | .many a, .many b => a = b
  | .wrong _, .wrong _ => True
  | _, _ => False
def LikeA : LR ⊕ List Int → LR ⊕ List Int → Prop
  | .inl (.wrong _), .inl (.wrong _) => True
  | .inr a, .inr b => a = b
  | _, _ => False
theorem args_like {look : Nd → Option LR} : ∀ (l m : List Nd) (acc : List Int) (R R' : LR ⊕ List Int), l.map strip = m.map strip → (∀ x, x ∈ l → ∀ y S S', strip x = strip y → look x = some S → look y = some S' → Like S S') → argsF look l acc = some R → argsF look m acc = some R' → LikeA R R'
  | [], [], acc, R, R', _, _, h1, h2 => by
    obtain rfl := Option.some.inj h1
    obtain rfl := Option.some.inj h2
    rfl
  | [], y :: m, acc, R, R', h, _, _, _ => by simp at h
  | x :: l, [], acc, R, R', h, _, _, _ => by simp at h
  | x :: l, y :: m, acc, R, R', h, hl, h1, h2 => by
    rw [List.map_cons, List.map_cons] at h
    injection h with hx hr
    rw [argsF] at h1 h2
    obtain ⟨q, hq, h3⟩ := Option.bind_eq_some_iff.mp h1
    obtain ⟨q', hq', h4⟩ := Option.bind_eq_some_iff.mp h2
    have hk := hl x (by simp) y q q' hx hq hq'
    cases q with
    | wrong p =>
      cases q' with
      | wrong p' =>
        obtain rfl := Option.some.inj h3
        obtain rfl := Option.some.inj h4
        trivial
      | one k => exact hk.elim
      | many k => exact hk.elim
    | many k =>
      cases q' with
      | many k' =>
        obtain rfl := Option.some.inj h3
        obtain rfl := Option.some.inj h4
        trivial
      | one k => exact hk.elim
      | wrong k => exact hk.elim
    | one k =>
      cases q' with
      | one k' =>
        have hk' : k = k' := hk
        subst hk'
        have h3' : (if acc.length < 1000000 then argsF look l (acc ++ [k]) else none) = some R := h3
        have h4' : (if acc.length < 1000000 then argsF look m (acc ++ [k]) else none) = some R' := h4
        by_cases ha : acc.length < 1000000
        · rw [if_pos ha] at h3' h4'
          exact args_like l m _ R R' hr (fun x hx => hl x (by simp [hx])) h3' h4'
        · rw [if_neg ha] at h3'
          cases h3'
      | many k => exact hk.elim
      | wrong k => exact hk.elim
theorem look_like : ∀ (f : Nat) (n m : Nd) (R R' : LR), strip n = strip m → lookF f n = some R → lookF f m = some R' → Like R R'
  | 0, n, m, R, R', _, h, _ => by cases h
  | f + 1, n, m, R, R', hs, h, h' => by
    rw [stripE n, stripE m] at hs
    have e0 : n.f0 = m.f0 := congrArg (·.f0) hs
    have e1 : n.f1 = m.f1 := congrArg (·.f1) hs
    have e2 : n.f2.map strip = m.f2.map strip := congrArg (·.f2) hs
    rw [lookF] at h h'
    rw [← e0] at h'
    by_cases h1 : n.f0 = 1
    · rw [if_pos h1] at h h'
      obtain rfl := Option.some.inj h
      obtain rfl := Option.some.inj h'
      rfl
    rw [if_neg h1] at h h'
    by_cases h2 : n.f0 = 2
    · rw [if_pos h2] at h h'
      obtain rfl := Option.some.inj h
      obtain rfl := Option.some.inj h'
      rfl
    rw [if_neg h2] at h h'
    by_cases h3 : n.f0 = 3
    · rw [if_pos h3] at h h'
      obtain rfl := Option.some.inj h
      obtain rfl := Option.some.inj h'
      rfl
    rw [if_neg h3] at h h'
    by_cases h4 : n.f0 = 4
    · rw [if_pos h4] at h h'
      obtain rfl := Option.some.inj h
      obtain rfl := Option.some.inj h'
      rfl
    rw [if_neg h4] at h h'
    by_cases h5 : n.f0 = 5
    · rw [if_pos h5, kind_some _ 20 (Nat.le_refl _)] at h h'
      obtain rfl := Option.some.inj h
      obtain rfl := Option.some.inj h'
      show posN n.f1 0 nmL + 1 = posN m.f1 0 nmL + 1
      rw [e1]
    rw [if_neg h5] at h h'
    by_cases hn : n.f2.length ≤ 1000000
    · have hm : m.f2.length ≤ 1000000 := by
        have := congrArg List.length e2
        simp at this
        omega
      rw [if_pos hn] at h
      rw [if_pos hm] at h'
      obtain ⟨q, hq, h6⟩ := Option.bind_eq_some_iff.mp h
      obtain ⟨q', hq', h7⟩ := Option.bind_eq_some_iff.mp h'
      have hk := args_like n.f2 m.f2 [] q q' e2 (fun x hx y S S' hxy hS hS' => look_like f x y S S' hxy hS hS') hq hq'
      cases q with
      | inl r =>
        cases r with
        | one k => exact absurd hk (by cases q' with | inl r => cases r <;> exact fun q => q | inr a => exact fun q => q)
        | many k => exact absurd hk (by cases q' with | inl r => cases r <;> exact fun q => q | inr a => exact fun q => q)
        | wrong p =>
          cases q' with
          | inl r =>
            cases r with
            | wrong p' =>
              obtain rfl := Option.some.inj h6
              obtain rfl := Option.some.inj h7
              trivial
            | one k => exact hk.elim
            | many k => exact hk.elim
          | inr a => exact hk.elim
      | inr a =>
        cases q' with
        | inl r => cases r <;> exact hk.elim
        | inr b =>
          have hab : a = b := hk
          subst hab
          obtain ⟨o, ho, h8⟩ := Option.bind_eq_some_iff.mp h6
          obtain ⟨o', ho', h9⟩ := Option.bind_eq_some_iff.mp h7
          have eo : o = o' := by
            have : kind_operation.f n.f0 n.f1 n.f2 n.f3 = kind_operation.f m.f0 m.f1 m.f2 m.f3 := by
              unfold kind_operation.f
              rw [e0, e1]
            rw [ho, ho'] at this
            exact Option.some.inj this
          subst eo
          obtain rfl := Option.some.inj h8
          obtain rfl := Option.some.inj h9
          by_cases hf : (findF o a).2.2 = false
          · rw [if_pos hf, if_pos hf]
            trivial
          · rw [if_neg hf, if_neg hf]
            by_cases hg : (findF o a).2.1 = true
            · rw [if_pos hg]
              rfl
            · rw [if_neg hg]
              rfl
    · rw [if_neg hn] at h
      cases h
end Go.Proofs.YtfgogfdbjbnlbaaDoor.PExpr
end
