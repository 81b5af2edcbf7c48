/- What the claim of CardKindFinds needs, out of the session's texts, in their order. -/
import Derived.Test.YtfgogfdbjbnlbaaDoorKuL
section
namespace Go.Proofs.YtfgogfdbjbnlbaaDoor.PExpr
open Go.RowKit Go.Proofs.YtfgogfdbjbnlbaaDoorW.PrintWords Go.Proofs.YtfgogfdbjbnlbaaDoorW.PrintLast Go.Proofs.YtfgogfdbjbnlbaaDoorW.PrintMore
attribute [local go_sem] max2_int min2_int max_two min_two max_three min_three max_four min_four   -- for this text's walks alone
set_option linter.unusedVariables false
set_option linter.unusedSimpArgs false
def computusref23_Table.f : Option (List S27) := some rowsR
theorem computusref23_Table.calls (r : List S27) (w : World) (h : computusref23_Table.f = some r) :
  Calls Tryd.prog 6 #[] w fun e w' => ∃ v0_ : Value, e = .returned (v0_) ∧ Kd.S k27 27 w' w.heap.size (fun _ => True) v0_ r ∧ Below w.heap.size w w' := by
 obtain rfl := Option.some.inj h
 exact table_calls w
def expr_Parse.f (a0 : ByteArray) : Option (Int × ByteArray × (List (S58)) × Int × Int × Int) := (parseS a0).map fun r => (r.1.f0, r.1.f1, r.1.f2, r.1.f3, r.2.1, r.2.2)
theorem expr_Parse.calls (a0 : ByteArray) (r1 : Int) (r2 : ByteArray) (r3 : List (S58)) (r4 : Int) (r5 : Int) (r6 : Int) (w : World) (h : expr_Parse.f a0 = some (r1, r2, r3, r4, r5, r6)) :
  Calls Tryd.prog 23 #[.string a0] w fun e w' => ∃ v2_ : Value, e = .returned (.tuple #[.agg #[.int .i64 r1, .string r2, v2_, .int .i64 r4], .int .i64 r5, .int .i64 r6]) ∧ Kd.R k58 58 w' w.heap.size (fun _ => True) v2_ r3 ∧ Below w.heap.size w w' := by
 obtain ⟨⟨n, pos, why⟩, hp, he⟩ := Option.map_eq_some_iff.1 h
 injection he with e1 he
 injection he with e2 he
 injection he with e3 he
 injection he with e4 he
 injection he with e5 e6
 subst e1 e2 e3 e4 e5 e6
 exact parse_body a0 n pos why w hp
def kind_Find.f (a0 : ByteArray) (l : List Int) : Option (Int × Bool × Bool) := if l.length ≤ 17592186043904 then some (findF a0 l) else none
theorem kind_Find.calls (a0 : ByteArray) (A1 : Option Addr) (c1 : Nat) (l1 : List Int) (r1 : Int) (r2 : Bool) (r3 : Bool) (w : World) (hr : Kd.C (Kd.int .i64) w A1 l1.length l1) (hc : l1.length ≤ c1) (hT : Tab w) (h : kind_Find.f a0 l1 = some (r1, r2, r3)) :
  Calls Tryd.prog 8 #[.string a0, .slice A1 l1.length c1] w fun e w' => e = .returned (.tuple #[.int .i64 r1, .bool r2, .bool r3]) ∧ Below w.heap.size w w' := by
 unfold kind_Find.f at h
 split at h
 ·rename_i hl
  have e := Option.some.inj h
  refine (find_calls a0 A1 c1 l1 w hr hc hl hT).mono ?_
  rintro e' w' ⟨rfl, hb⟩
  rw [e]
  exact ⟨rfl, hb⟩
 ·cases h
def kind_Check.f (a0 : Int) (a1 : ByteArray) (l : List S58) (a3 : Int) : Option (Int × Bool × Int × Int) := checkF ⟨a0, a1, l, a3⟩
theorem kind_Check.calls (a0 : Int) (a1 : ByteArray) (A2 : Option Addr) (c2 : Nat) (l2 : List S58) (a3 : Int) (r1 : Int) (r2 : Bool) (r3 : Int) (r4 : Int) (w : World) (hr : Kd.C k58 w A2 l2.length l2) (hc : l2.length ≤ c2) (hT : Tab w) (h : kind_Check.f a0 a1 l2 a3 = some (r1, r2, r3, r4)) :
  Calls Tryd.prog 24 #[.agg #[.int .i64 a0, .string a1, .slice A2 l2.length c2, .int .i64 a3]] w fun e w' => e = .returned (.tuple #[.int .i64 r1, .bool r2, .int .i64 r3, .int .i64 r4]) ∧ Below w.heap.size w w' :=
 check_calls ⟨a0, a1, l2, a3⟩ (r1, r2, r3, r4) A2 c2 w h hr hc hT
def computuslaw23_check.f (a0 : ByteArray) : Option (Int × Bool × Int × Int) := (expr_Parse.f a0).bind fun bt149 => (if bt149.2.2.2.2.2 = 0 then ((kind_Check.f bt149.1 bt149.2.1 bt149.2.2.1 bt149.2.2.2.1).bind fun bt158 => (some (bt158.1, bt158.2.1, bt158.2.2.1, bt158.2.2.2))) else (some (0, false, bt149.2.2.2.2.1, bt149.2.2.2.2.2)))
set_option maxHeartbeats 8000000 in
set_option maxRecDepth 100000 in
theorem computuslaw23_check.calls (a0 : ByteArray) (r1 : Int) (r2 : Bool) (r3 : Int) (r4 : Int) (w : World) (hTW0 : Tab w) (h : computuslaw23_check.f a0 = some (r1, r2, r3, r4)) :
  Calls Tryd.prog 9 #[.string a0] w fun e w' => e = .returned (.tuple #[.int .i64 r1, .bool r2, .int .i64 r3, .int .i64 r4]) ∧ Below w.heap.size w w' := by
 have HTW0 := Aside0.mk hTW0
 clear hTW0
 have hu58 := Tryd.underlying58
 have HB := Aside0.mk (Below.refl w.heap.size w)
 have H : ((expr_Parse.f a0).bind fun bt149 => (if bt149.2.2.2.2.2 = 0 then ((kind_Check.f bt149.1 bt149.2.1 bt149.2.2.1 bt149.2.2.2.1).bind fun bt158 => (some (bt158.1, bt158.2.1, bt158.2.2.1, bt158.2.2.2))) else (some (0, false, bt149.2.2.2.2.1, bt149.2.2.2.2.2)))) = some (r1, r2, r3, r4) := h
 clear h
 replace H := Option.bind_eq_some_iff.mp H
 obtain ⟨⟨t149, t150, t151, t154, t155, t156⟩, A20, H⟩ := H
 replace H : (if t156 = 0 then ((kind_Check.f t149 t150 t151 t154).bind fun bt158 => (some (bt158.1, bt158.2.1, bt158.2.2.1, bt158.2.2.2))) else (some (0, false, t155, t156))) = some (r1, r2, r3, r4) := H
 have A2 := Aside0.mk A20
 clear A20
 by_cases c3 : t156 = 0
 ·rw [if_pos c3] at H
  have c3b0 : (t156 == 0) = true := beq_iff_eq.mpr c3
  have c3b1 : (t156 != 0) = false := bne_eq_false_iff_eq.mpr c3
  clear c3
  replace H := Option.bind_eq_some_iff.mp H
  obtain ⟨⟨t158, t159, t160, t161⟩, A40, H⟩ := H
  replace H : (some (t158, t159, t160, t161)) = some (r1, r2, r3, r4) := H
  have A4 := Aside0.mk A40
  clear A40
  simp only [Option.some.injEq, Prod.mk.injEq] at H
  obtain ⟨rfl, rfl, rfl, rfl⟩ := H
  go_enter Tryd.func9, Tryd.ntmps9
  go_wp2_with (first | ((with_reducible refine gate_callee (f := 23) rfl ?_); refine goesL_ (some 11) rfl rfl Tryd.func23 (by kernel_rfl) rfl #[.string a0] rfl (by (try simp only [List.map_toArray, List.map_cons, List.map_nil]); first | done | rfl | (simp only [List.length_drop, List.length_take]; rfl)) ?_; (with_reducible refine (expr_Parse.calls a0 t149 t150 t151 t154 t155 t156 _ A2.out).mono ?_); rintro e w5 ⟨v152, rfl, ho0, hb⟩; refine ⟨_, rfl, ?_⟩; have n0_ := Aside0.mk (Kd.R_lower ho0 (below_size (by repeat (first | (with_reducible first | exact HB.out | apply below_alloc | apply pw_below_drewN | apply below_drew1) | exact HB.out)))); have n1_ := Aside0.mk (below_step (by repeat (first | (with_reducible first | exact HB.out | apply below_alloc | apply pw_below_drewN | apply below_drew1) | exact HB.out)) hb); clear HB; have HO153 := n0_; have HB := n1_; clear n0_ n1_; (try clear hb); (try clear hb2); (try clear hk); (try clear hi); (try clear ho0)) | ((with_reducible refine gate_dst (N := 6) rfl ?_); refine box_event ?hg (N := 6) ?hd (cs := #[.int .i64 0, .string (⟨#[]⟩ : ByteArray), .slice none 0 0, .int .i64 0]) (t := 58) ?hr ?_; (case hd => rfl); (case hg => rfl); (case hr => first | (go_simp; done) | (go_simp; rfl)); intro gb157 hg w6 hbox hb; have n0_ := Aside0.mk (Kd.R_below (Kd.R_elderB (by (with_reducible repeat (first | apply Kd.R_alloc | apply Kd.R_drewN | apply Kd.R_drew)); exact HO153.out) gb157 (Nat.le_of_eq hg.symm)) hb); have n1_ := Aside0.mk (below_step (by repeat (first | (with_reducible first | exact HB.out | apply below_alloc | apply pw_below_drewN | apply below_drew1) | exact HB.out)) hb); have n2_ := Aside0.mk (hbox); have n3_ := Aside0.mk ((by rw [hg]; exact (below_size (by repeat (first | (with_reducible first | exact HB.out | apply below_alloc | apply pw_below_drewN | apply below_drew1) | exact HB.out))) : w.heap.size ≤ gb157)); have n4_ := Aside0.mk ((by rw [hg]; exact (below_size (by repeat (first | (with_reducible first | exact HB.out | apply below_alloc | apply pw_below_drewN | apply below_drew1) | exact HB.out))) : w.heap.size ≤ gb157)); clear HO153; clear HB; have HO153 := n0_; have HB := n1_; have BK157 := n2_; have GW157 := n3_; have GE157 := n4_; clear n0_ n1_ n2_ n3_ n4_; clear hb hbox hg; have hcz7_0 : w6.cell? ⟨gb157, 0, none⟩ = some (.int .i64 0) := (blk_cell BK157.out 0).trans rfl; have hcz7_1 : w6.cell? ⟨gb157, 1, none⟩ = some (.string (⟨#[]⟩ : ByteArray)) := (blk_cell BK157.out 1).trans rfl; have hcz7_2 : w6.cell? ⟨gb157, 2, none⟩ = some (.slice none 0 0) := (blk_cell BK157.out 2).trans rfl; have hcz7_3 : w6.cell? ⟨gb157, 3, none⟩ = some (.int .i64 0) := (blk_cell BK157.out 3).trans rfl; have hfz7_0 := blk_frozen BK157.out 0; have hfz7_1 := blk_frozen BK157.out 1; have hfz7_2 := blk_frozen BK157.out 2; have hfz7_3 := blk_frozen BK157.out 3; obtain ⟨Ao8, co8, eo8⟩ := Kd.R_slice HO153.out; subst eo8) | ((with_reducible refine gate_callee (f := 24) rfl ?_); refine goesL_ (some 20) rfl rfl Tryd.func24 (by kernel_rfl) rfl #[.agg #[.int .i64 t149, .string t150, .slice Ao8 t151.length co8, .int .i64 t154]] rfl (by (try simp only [List.map_toArray, List.map_cons, List.map_nil]); first | done | rfl | (simp only [List.length_drop, List.length_take]; rfl)) ?_; (with_reducible refine (kind_Check.calls t149 t150 _ _ t151 t154 t158 t159 t160 t161 _ ?side1 ?side2 (HTW0.out.below (by repeat (first | (with_reducible first | exact HB.out | apply below_alloc | apply pw_below_drewN | apply below_drew1 | refine below_set ?_ GE157.out) | exact HB.out))) A4.out).mono ?_); (case side1 => refine (Kd.R_reads' (e := 58) (base := w.heap.size) (ok := fun k_ => (True ∧ k_ ≠ gb157)) (n := t151.length) (c := co8) ?_).2.2; exact (by (with_reducible repeat (first | apply Kd.R_alloc | apply Kd.R_drewN | apply Kd.R_drew)); exact (Kd.R_mono (Kd.R_far (p := ⟨gb157, 3, none⟩) (Kd.R_far (p := ⟨gb157, 2, none⟩) (Kd.R_far (p := ⟨gb157, 1, none⟩) (Kd.R_far (p := ⟨gb157, 0, none⟩) (Kd.R_mono HO153.out (fun k_ hk => (⟨hk, hk.2⟩ : _ ∧ k_ ≠ gb157))) (fun _ hk => hk.2) (.int .i64 t149)) (fun _ hk => hk.2) (.string t150)) (fun _ hk => hk.2) (.slice Ao8 t151.length co8)) (fun _ hk => hk.2) (.int .i64 t154)) (fun _ h_ => h_.1)))); (case side2 => exact (Kd.R_reads' HO153.out).2.1); rintro e w9 ⟨rfl, hb⟩; refine ⟨_, rfl, ?_⟩; have n0_ := Aside0.mk (Kd.R_below (by (with_reducible repeat (first | apply Kd.R_alloc | apply Kd.R_drewN | apply Kd.R_drew)); exact (Kd.R_mono (Kd.R_far (p := ⟨gb157, 3, none⟩) (Kd.R_far (p := ⟨gb157, 2, none⟩) (Kd.R_far (p := ⟨gb157, 1, none⟩) (Kd.R_far (p := ⟨gb157, 0, none⟩) (Kd.R_mono HO153.out (fun k_ hk => (⟨hk, hk.2⟩ : _ ∧ k_ ≠ gb157))) (fun _ hk => hk.2) (.int .i64 t149)) (fun _ hk => hk.2) (.string t150)) (fun _ hk => hk.2) (.slice Ao8 t151.length co8)) (fun _ hk => hk.2) (.int .i64 t154)) (fun _ h_ => h_.1))) hb); have n1_ := Aside0.mk (blk_below (g := gb157) (o := .cells #[.int .i64 t149, .string t150, .slice Ao8 t151.length co8, .int .i64 t154] 58 (0, 0)) (by (with_reducible repeat (first | refine blk_drewN ?_ _ | refine blk_drew ?_ | refine blk_alloc ?_ _)); refine blk_put (cs := #[.int .i64 t149, .string t150, .slice Ao8 t151.length co8, .int .i64 0]) ?_ 3 _ rfl; (with_reducible repeat (first | refine blk_drewN ?_ _ | refine blk_drew ?_ | refine blk_alloc ?_ _)); refine blk_put (cs := #[.int .i64 t149, .string t150, .slice none 0 0, .int .i64 0]) ?_ 2 _ rfl; (with_reducible repeat (first | refine blk_drewN ?_ _ | refine blk_drew ?_ | refine blk_alloc ?_ _)); refine blk_put (cs := #[.int .i64 t149, .string (⟨#[]⟩ : ByteArray), .slice none 0 0, .int .i64 0]) ?_ 1 _ rfl; (with_reducible repeat (first | refine blk_drewN ?_ _ | refine blk_drew ?_ | refine blk_alloc ?_ _)); refine blk_put (cs := #[.int .i64 0, .string (⟨#[]⟩ : ByteArray), .slice none 0 0, .int .i64 0]) ?_ 0 _ rfl; (with_reducible repeat (first | refine blk_drewN ?_ _ | refine blk_drew ?_ | refine blk_alloc ?_ _)); exact BK157.out) hb); have n2_ := Aside0.mk (below_step (by repeat (first | (with_reducible first | exact HB.out | apply below_alloc | apply pw_below_drewN | apply below_drew1 | refine below_set ?_ GE157.out) | exact HB.out)) hb); clear HO153; clear BK157; clear HB; have HO153 := n0_; have BK157 := n1_; have HB := n2_; clear n0_ n1_ n2_; (try clear hb); (try clear hb2); (try clear hk); (try clear hi)))
  refine bodyPost_ret (results_list (rs := [.tmp 2, .tmp 3, .tmp 4, .tmp 5]) rfl (by simp) (.tmp (.tmp (.tmp (.tmp .nil))))) rfl ?_
  exact ⟨by first | rfl | (simp [errW_none, errW_some] <;> rfl) | (simp [*, errW_none, errW_some] <;> rfl), by repeat (first | (with_reducible first | exact HB.out | apply below_alloc | apply pw_below_drewN | apply below_drew1 | refine below_set ?_ GE157.out) | exact HB.out)⟩
 ·rw [if_neg c3] at H
  have c3b0 : (t156 == 0) = false := beq_eq_false_iff_ne.mpr c3
  have c3b1 : (t156 != 0) = true := bne_iff_ne.mpr c3
  simp only [Option.some.injEq, Prod.mk.injEq] at H
  obtain ⟨rfl, rfl, rfl, rfl⟩ := H
  go_enter Tryd.func9, Tryd.ntmps9
  go_wp2_with (first | ((with_reducible refine gate_callee (f := 23) rfl ?_); refine goesL_ (some 11) rfl rfl Tryd.func23 (by kernel_rfl) rfl #[.string a0] rfl (by (try simp only [List.map_toArray, List.map_cons, List.map_nil]); first | done | rfl | (simp only [List.length_drop, List.length_take]; rfl)) ?_; (with_reducible refine (expr_Parse.calls a0 t149 t150 t151 t154 t155 t156 _ A2.out).mono ?_); rintro e w10 ⟨v152, rfl, ho0, hb⟩; refine ⟨_, rfl, ?_⟩; have n0_ := Aside0.mk (Kd.R_lower ho0 (below_size (by repeat (first | (with_reducible first | exact HB.out | apply below_alloc | apply pw_below_drewN | apply below_drew1) | exact HB.out)))); have n1_ := Aside0.mk (below_step (by repeat (first | (with_reducible first | exact HB.out | apply below_alloc | apply pw_below_drewN | apply below_drew1) | exact HB.out)) hb); clear HB; have HO153 := n0_; have HB := n1_; clear n0_ n1_; (try clear hb); (try clear hb2); (try clear hk); (try clear hi); (try clear ho0)) | ((with_reducible refine gate_dst (N := 6) rfl ?_); refine box_event ?hg (N := 6) ?hd (cs := #[.int .i64 0, .string (⟨#[]⟩ : ByteArray), .slice none 0 0, .int .i64 0]) (t := 58) ?hr ?_; (case hd => rfl); (case hg => rfl); (case hr => first | (go_simp; done) | (go_simp; rfl)); intro gb157 hg w11 hbox hb; have n0_ := Aside0.mk (Kd.R_below (Kd.R_elderB (by (with_reducible repeat (first | apply Kd.R_alloc | apply Kd.R_drewN | apply Kd.R_drew)); exact HO153.out) gb157 (Nat.le_of_eq hg.symm)) hb); have n1_ := Aside0.mk (below_step (by repeat (first | (with_reducible first | exact HB.out | apply below_alloc | apply pw_below_drewN | apply below_drew1) | exact HB.out)) hb); have n2_ := Aside0.mk (hbox); have n3_ := Aside0.mk ((by rw [hg]; exact (below_size (by repeat (first | (with_reducible first | exact HB.out | apply below_alloc | apply pw_below_drewN | apply below_drew1) | exact HB.out))) : w.heap.size ≤ gb157)); have n4_ := Aside0.mk ((by rw [hg]; exact (below_size (by repeat (first | (with_reducible first | exact HB.out | apply below_alloc | apply pw_below_drewN | apply below_drew1) | exact HB.out))) : w.heap.size ≤ gb157)); clear HO153; clear HB; have HO153 := n0_; have HB := n1_; have BK157 := n2_; have GW157 := n3_; have GE157 := n4_; clear n0_ n1_ n2_ n3_ n4_; clear hb hbox hg; have hcz12_0 : w11.cell? ⟨gb157, 0, none⟩ = some (.int .i64 0) := (blk_cell BK157.out 0).trans rfl; have hcz12_1 : w11.cell? ⟨gb157, 1, none⟩ = some (.string (⟨#[]⟩ : ByteArray)) := (blk_cell BK157.out 1).trans rfl; have hcz12_2 : w11.cell? ⟨gb157, 2, none⟩ = some (.slice none 0 0) := (blk_cell BK157.out 2).trans rfl; have hcz12_3 : w11.cell? ⟨gb157, 3, none⟩ = some (.int .i64 0) := (blk_cell BK157.out 3).trans rfl; have hfz12_0 := blk_frozen BK157.out 0; have hfz12_1 := blk_frozen BK157.out 1; have hfz12_2 := blk_frozen BK157.out 2; have hfz12_3 := blk_frozen BK157.out 3; obtain ⟨Ao13, co13, eo13⟩ := Kd.R_slice HO153.out; subst eo13))
  refine bodyPost_ret (results_list (rs := [.tmp 2, .tmp 3, .tmp 4, .tmp 5]) rfl (by simp) (.tmp (.tmp (.tmp (.tmp .nil))))) rfl ?_
  exact ⟨by first | rfl | (simp [errW_none, errW_some] <;> rfl) | (simp [*, errW_none, errW_some] <;> rfl), by repeat (first | (with_reducible first | exact HB.out | apply below_alloc | apply pw_below_drewN | apply below_drew1 | refine below_set ?_ GE157.out) | exact HB.out)⟩
def computuslaw23_known.f  : Option (Bool) := (computuslaw23_check.f (⟨#[49, 32, 43, 32, 49, 46, 53]⟩ : ByteArray)).bind fun bt162 => ((computuslaw23_check.f (⟨#[100, 97, 116, 101, 32, 39, 50, 48, 50, 52, 45, 48, 49, 45, 48, 49, 39, 32, 43, 32, 49]⟩ : ByteArray)).bind fun bt166 => ((computuslaw23_check.f (⟨#[49, 32, 43, 32, 116, 114, 117, 101]⟩ : ByteArray)).bind fun bt170 => ((computuslaw23_check.f (⟨#[103, 101, 110, 101, 114, 97, 116, 101, 95, 115, 101, 114, 105, 101, 115, 40, 49, 44, 32, 50, 44, 32, 49, 41, 32, 43, 32, 49]⟩ : ByteArray)).bind fun bt174 => (if bt162.1 = 3 then (if bt162.2.2.2 = 0 then (if bt166.1 = 5 then (if bt166.2.2.2 = 0 then (if bt170.2.2.1 = 2 then (if bt170.2.2.2 = 32 then (if bt174.2.2.1 = 0 then (some (bt174.2.2.2 == 32)) else (some false)) else (some false)) else (some false)) else (some false)) else (some false)) else (some false)) else (some false)))))
set_option maxHeartbeats 8000000 in
set_option maxRecDepth 100000 in
theorem computuslaw23_known.calls  (r : Bool) (w : World) (hTW0 : Tab w) (h : computuslaw23_known.f  = some r) :
  Calls Tryd.prog 7 #[] w fun e w' => e = .returned (.bool r) ∧ Below w.heap.size w w' := by
 have HTW0 := Aside0.mk hTW0
 clear hTW0
 have HB := Aside0.mk (Below.refl w.heap.size w)
 have H : ((computuslaw23_check.f (⟨#[49, 32, 43, 32, 49, 46, 53]⟩ : ByteArray)).bind fun bt162 => ((computuslaw23_check.f (⟨#[100, 97, 116, 101, 32, 39, 50, 48, 50, 52, 45, 48, 49, 45, 48, 49, 39, 32, 43, 32, 49]⟩ : ByteArray)).bind fun bt166 => ((computuslaw23_check.f (⟨#[49, 32, 43, 32, 116, 114, 117, 101]⟩ : ByteArray)).bind fun bt170 => ((computuslaw23_check.f (⟨#[103, 101, 110, 101, 114, 97, 116, 101, 95, 115, 101, 114, 105, 101, 115, 40, 49, 44, 32, 50, 44, 32, 49, 41, 32, 43, 32, 49]⟩ : ByteArray)).bind fun bt174 => (if bt162.1 = 3 then (if bt162.2.2.2 = 0 then (if bt166.1 = 5 then (if bt166.2.2.2 = 0 then (if bt170.2.2.1 = 2 then (if bt170.2.2.2 = 32 then (if bt174.2.2.1 = 0 then (some (bt174.2.2.2 == 32)) else (some false)) else (some false)) else (some false)) else (some false)) else (some false)) else (some false)) else (some false)))))) = some r := h
 clear h
 replace H := Option.bind_eq_some_iff.mp H
 obtain ⟨⟨t162, t163, t164, t165⟩, A10, H⟩ := H
 replace H : ((computuslaw23_check.f (⟨#[100, 97, 116, 101, 32, 39, 50, 48, 50, 52, 45, 48, 49, 45, 48, 49, 39, 32, 43, 32, 49]⟩ : ByteArray)).bind fun bt166 => ((computuslaw23_check.f (⟨#[49, 32, 43, 32, 116, 114, 117, 101]⟩ : ByteArray)).bind fun bt170 => ((computuslaw23_check.f (⟨#[103, 101, 110, 101, 114, 97, 116, 101, 95, 115, 101, 114, 105, 101, 115, 40, 49, 44, 32, 50, 44, 32, 49, 41, 32, 43, 32, 49]⟩ : ByteArray)).bind fun bt174 => (if t162 = 3 then (if t165 = 0 then (if bt166.1 = 5 then (if bt166.2.2.2 = 0 then (if bt170.2.2.1 = 2 then (if bt170.2.2.2 = 32 then (if bt174.2.2.1 = 0 then (some (bt174.2.2.2 == 32)) else (some false)) else (some false)) else (some false)) else (some false)) else (some false)) else (some false)) else (some false))))) = some r := H
 have A1 := Aside0.mk A10
 clear A10
 replace H := Option.bind_eq_some_iff.mp H
 obtain ⟨⟨t166, t167, t168, t169⟩, A20, H⟩ := H
 replace H : ((computuslaw23_check.f (⟨#[49, 32, 43, 32, 116, 114, 117, 101]⟩ : ByteArray)).bind fun bt170 => ((computuslaw23_check.f (⟨#[103, 101, 110, 101, 114, 97, 116, 101, 95, 115, 101, 114, 105, 101, 115, 40, 49, 44, 32, 50, 44, 32, 49, 41, 32, 43, 32, 49]⟩ : ByteArray)).bind fun bt174 => (if t162 = 3 then (if t165 = 0 then (if t166 = 5 then (if t169 = 0 then (if bt170.2.2.1 = 2 then (if bt170.2.2.2 = 32 then (if bt174.2.2.1 = 0 then (some (bt174.2.2.2 == 32)) else (some false)) else (some false)) else (some false)) else (some false)) else (some false)) else (some false)) else (some false)))) = some r := H
 have A2 := Aside0.mk A20
 clear A20
 replace H := Option.bind_eq_some_iff.mp H
 obtain ⟨⟨t170, t171, t172, t173⟩, A30, H⟩ := H
 replace H : ((computuslaw23_check.f (⟨#[103, 101, 110, 101, 114, 97, 116, 101, 95, 115, 101, 114, 105, 101, 115, 40, 49, 44, 32, 50, 44, 32, 49, 41, 32, 43, 32, 49]⟩ : ByteArray)).bind fun bt174 => (if t162 = 3 then (if t165 = 0 then (if t166 = 5 then (if t169 = 0 then (if t172 = 2 then (if t173 = 32 then (if bt174.2.2.1 = 0 then (some (bt174.2.2.2 == 32)) else (some false)) else (some false)) else (some false)) else (some false)) else (some false)) else (some false)) else (some false))) = some r := H
 have A3 := Aside0.mk A30
 clear A30
 replace H := Option.bind_eq_some_iff.mp H
 obtain ⟨⟨t174, t175, t176, t177⟩, A40, H⟩ := H
 replace H : (if t162 = 3 then (if t165 = 0 then (if t166 = 5 then (if t169 = 0 then (if t172 = 2 then (if t173 = 32 then (if t176 = 0 then (some (t177 == 32)) else (some false)) else (some false)) else (some false)) else (some false)) else (some false)) else (some false)) else (some false)) = some r := H
 have A4 := Aside0.mk A40
 clear A40
 by_cases c5 : t162 = 3
 ·rw [if_pos c5] at H
  have c5b0 : (t162 == 3) = true := beq_iff_eq.mpr c5
  have c5b1 : (t162 != 3) = false := bne_eq_false_iff_eq.mpr c5
  clear c5
  by_cases c6 : t165 = 0
  ·rw [if_pos c6] at H
   have c6b0 : (t165 == 0) = true := beq_iff_eq.mpr c6
   have c6b1 : (t165 != 0) = false := bne_eq_false_iff_eq.mpr c6
   clear c6
   by_cases c7 : t166 = 5
   ·rw [if_pos c7] at H
    have c7b0 : (t166 == 5) = true := beq_iff_eq.mpr c7
    have c7b1 : (t166 != 5) = false := bne_eq_false_iff_eq.mpr c7
    clear c7
    by_cases c8 : t169 = 0
    ·rw [if_pos c8] at H
     have c8b0 : (t169 == 0) = true := beq_iff_eq.mpr c8
     have c8b1 : (t169 != 0) = false := bne_eq_false_iff_eq.mpr c8
     clear c8
     by_cases c9 : t172 = 2
     ·rw [if_pos c9] at H
      have c9b0 : (t172 == 2) = true := beq_iff_eq.mpr c9
      have c9b1 : (t172 != 2) = false := bne_eq_false_iff_eq.mpr c9
      clear c9
      by_cases c10 : t173 = 32
      ·rw [if_pos c10] at H
       have c10b0 : (t173 == 32) = true := beq_iff_eq.mpr c10
       have c10b1 : (t173 != 32) = false := bne_eq_false_iff_eq.mpr c10
       clear c10
       by_cases c11 : t176 = 0
       ·rw [if_pos c11] at H
        have c11b0 : (t176 == 0) = true := beq_iff_eq.mpr c11
        have c11b1 : (t176 != 0) = false := bne_eq_false_iff_eq.mpr c11
        clear c11
        obtain rfl := Option.some.inj H
        go_enter Tryd.func7, Tryd.ntmps7
        go_wp2_with (first | ((with_reducible refine gate_callee (f := 9) rfl ?_); refine goesL_ (some 18) rfl rfl Tryd.func9 (by kernel_rfl) rfl #[.string (⟨#[49, 32, 43, 32, 49, 46, 53]⟩ : ByteArray)] rfl (by (try simp only [List.map_toArray, List.map_cons, List.map_nil]); first | done | rfl | (simp only [List.length_drop, List.length_take]; rfl)) ?_; (with_reducible refine (computuslaw23_check.calls (⟨#[49, 32, 43, 32, 49, 46, 53]⟩ : ByteArray) t162 t163 t164 t165 _ (HTW0.out.below (by repeat (first | (with_reducible first | exact HB.out | apply below_alloc | apply pw_below_drewN | apply below_drew1 ) | exact HB.out))) A1.out).mono ?_); rintro e w12 ⟨rfl, hb⟩; refine ⟨_, rfl, ?_⟩; have n0_ := Aside0.mk (below_step (by repeat (first | (with_reducible first | exact HB.out | apply below_alloc | apply pw_below_drewN | apply below_drew1) | exact HB.out)) hb); clear HB; have HB := n0_; clear n0_; (try clear hb); (try clear hb2); (try clear hk); (try clear hi)) | ((with_reducible refine gate_callee (f := 9) rfl ?_); refine goesL_ (some 24) rfl rfl Tryd.func9 (by kernel_rfl) rfl #[.string (⟨#[100, 97, 116, 101, 32, 39, 50, 48, 50, 52, 45, 48, 49, 45, 48, 49, 39, 32, 43, 32, 49]⟩ : ByteArray)] rfl (by (try simp only [List.map_toArray, List.map_cons, List.map_nil]); first | done | rfl | (simp only [List.length_drop, List.length_take]; rfl)) ?_; (with_reducible refine (computuslaw23_check.calls (⟨#[100, 97, 116, 101, 32, 39, 50, 48, 50, 52, 45, 48, 49, 45, 48, 49, 39, 32, 43, 32, 49]⟩ : ByteArray) t166 t167 t168 t169 _ (HTW0.out.below (by repeat (first | (with_reducible first | exact HB.out | apply below_alloc | apply pw_below_drewN | apply below_drew1 ) | exact HB.out))) A2.out).mono ?_); rintro e w13 ⟨rfl, hb⟩; refine ⟨_, rfl, ?_⟩; have n0_ := Aside0.mk (below_step (by repeat (first | (with_reducible first | exact HB.out | apply below_alloc | apply pw_below_drewN | apply below_drew1) | exact HB.out)) hb); clear HB; have HB := n0_; clear n0_; (try clear hb); (try clear hb2); (try clear hk); (try clear hi)) | ((with_reducible refine gate_callee (f := 9) rfl ?_); refine goesL_ (some 30) rfl rfl Tryd.func9 (by kernel_rfl) rfl #[.string (⟨#[49, 32, 43, 32, 116, 114, 117, 101]⟩ : ByteArray)] rfl (by (try simp only [List.map_toArray, List.map_cons, List.map_nil]); first | done | rfl | (simp only [List.length_drop, List.length_take]; rfl)) ?_; (with_reducible refine (computuslaw23_check.calls (⟨#[49, 32, 43, 32, 116, 114, 117, 101]⟩ : ByteArray) t170 t171 t172 t173 _ (HTW0.out.below (by repeat (first | (with_reducible first | exact HB.out | apply below_alloc | apply pw_below_drewN | apply below_drew1 ) | exact HB.out))) A3.out).mono ?_); rintro e w14 ⟨rfl, hb⟩; refine ⟨_, rfl, ?_⟩; have n0_ := Aside0.mk (below_step (by repeat (first | (with_reducible first | exact HB.out | apply below_alloc | apply pw_below_drewN | apply below_drew1) | exact HB.out)) hb); clear HB; have HB := n0_; clear n0_; (try clear hb); (try clear hb2); (try clear hk); (try clear hi)) | ((with_reducible refine gate_callee (f := 9) rfl ?_); refine goesL_ (some 36) rfl rfl Tryd.func9 (by kernel_rfl) rfl #[.string (⟨#[103, 101, 110, 101, 114, 97, 116, 101, 95, 115, 101, 114, 105, 101, 115, 40, 49, 44, 32, 50, 44, 32, 49, 41, 32, 43, 32, 49]⟩ : ByteArray)] rfl (by (try simp only [List.map_toArray, List.map_cons, List.map_nil]); first | done | rfl | (simp only [List.length_drop, List.length_take]; rfl)) ?_; (with_reducible refine (computuslaw23_check.calls (⟨#[103, 101, 110, 101, 114, 97, 116, 101, 95, 115, 101, 114, 105, 101, 115, 40, 49, 44, 32, 50, 44, 32, 49, 41, 32, 43, 32, 49]⟩ : ByteArray) t174 t175 t176 t177 _ (HTW0.out.below (by repeat (first | (with_reducible first | exact HB.out | apply below_alloc | apply pw_below_drewN | apply below_drew1 ) | exact HB.out))) A4.out).mono ?_); rintro e w15 ⟨rfl, hb⟩; refine ⟨_, rfl, ?_⟩; have n0_ := Aside0.mk (below_step (by repeat (first | (with_reducible first | exact HB.out | apply below_alloc | apply pw_below_drewN | apply below_drew1) | exact HB.out)) hb); clear HB; have HB := n0_; clear n0_; (try clear hb); (try clear hb2); (try clear hk); (try clear hi)))
        go_ret
        exact ⟨by first | rfl | (simp [errW_none, errW_some] <;> rfl) | (simp [*, errW_none, errW_some] <;> rfl), by repeat (first | (with_reducible first | exact HB.out | apply below_alloc | apply pw_below_drewN | apply below_drew1) | exact HB.out)⟩
       ·rw [if_neg c11] at H
        have c11b0 : (t176 == 0) = false := beq_eq_false_iff_ne.mpr c11
        have c11b1 : (t176 != 0) = true := bne_iff_ne.mpr c11
        obtain rfl := Option.some.inj H
        go_enter Tryd.func7, Tryd.ntmps7
        go_wp2_with (first | ((with_reducible refine gate_callee (f := 9) rfl ?_); refine goesL_ (some 18) rfl rfl Tryd.func9 (by kernel_rfl) rfl #[.string (⟨#[49, 32, 43, 32, 49, 46, 53]⟩ : ByteArray)] rfl (by (try simp only [List.map_toArray, List.map_cons, List.map_nil]); first | done | rfl | (simp only [List.length_drop, List.length_take]; rfl)) ?_; (with_reducible refine (computuslaw23_check.calls (⟨#[49, 32, 43, 32, 49, 46, 53]⟩ : ByteArray) t162 t163 t164 t165 _ (HTW0.out.below (by repeat (first | (with_reducible first | exact HB.out | apply below_alloc | apply pw_below_drewN | apply below_drew1 ) | exact HB.out))) A1.out).mono ?_); rintro e w16 ⟨rfl, hb⟩; refine ⟨_, rfl, ?_⟩; have n0_ := Aside0.mk (below_step (by repeat (first | (with_reducible first | exact HB.out | apply below_alloc | apply pw_below_drewN | apply below_drew1) | exact HB.out)) hb); clear HB; have HB := n0_; clear n0_; (try clear hb); (try clear hb2); (try clear hk); (try clear hi)) | ((with_reducible refine gate_callee (f := 9) rfl ?_); refine goesL_ (some 24) rfl rfl Tryd.func9 (by kernel_rfl) rfl #[.string (⟨#[100, 97, 116, 101, 32, 39, 50, 48, 50, 52, 45, 48, 49, 45, 48, 49, 39, 32, 43, 32, 49]⟩ : ByteArray)] rfl (by (try simp only [List.map_toArray, List.map_cons, List.map_nil]); first | done | rfl | (simp only [List.length_drop, List.length_take]; rfl)) ?_; (with_reducible refine (computuslaw23_check.calls (⟨#[100, 97, 116, 101, 32, 39, 50, 48, 50, 52, 45, 48, 49, 45, 48, 49, 39, 32, 43, 32, 49]⟩ : ByteArray) t166 t167 t168 t169 _ (HTW0.out.below (by repeat (first | (with_reducible first | exact HB.out | apply below_alloc | apply pw_below_drewN | apply below_drew1 ) | exact HB.out))) A2.out).mono ?_); rintro e w17 ⟨rfl, hb⟩; refine ⟨_, rfl, ?_⟩; have n0_ := Aside0.mk (below_step (by repeat (first | (with_reducible first | exact HB.out | apply below_alloc | apply pw_below_drewN | apply below_drew1) | exact HB.out)) hb); clear HB; have HB := n0_; clear n0_; (try clear hb); (try clear hb2); (try clear hk); (try clear hi)) | ((with_reducible refine gate_callee (f := 9) rfl ?_); refine goesL_ (some 30) rfl rfl Tryd.func9 (by kernel_rfl) rfl #[.string (⟨#[49, 32, 43, 32, 116, 114, 117, 101]⟩ : ByteArray)] rfl (by (try simp only [List.map_toArray, List.map_cons, List.map_nil]); first | done | rfl | (simp only [List.length_drop, List.length_take]; rfl)) ?_; (with_reducible refine (computuslaw23_check.calls (⟨#[49, 32, 43, 32, 116, 114, 117, 101]⟩ : ByteArray) t170 t171 t172 t173 _ (HTW0.out.below (by repeat (first | (with_reducible first | exact HB.out | apply below_alloc | apply pw_below_drewN | apply below_drew1 ) | exact HB.out))) A3.out).mono ?_); rintro e w18 ⟨rfl, hb⟩; refine ⟨_, rfl, ?_⟩; have n0_ := Aside0.mk (below_step (by repeat (first | (with_reducible first | exact HB.out | apply below_alloc | apply pw_below_drewN | apply below_drew1) | exact HB.out)) hb); clear HB; have HB := n0_; clear n0_; (try clear hb); (try clear hb2); (try clear hk); (try clear hi)) | ((with_reducible refine gate_callee (f := 9) rfl ?_); refine goesL_ (some 36) rfl rfl Tryd.func9 (by kernel_rfl) rfl #[.string (⟨#[103, 101, 110, 101, 114, 97, 116, 101, 95, 115, 101, 114, 105, 101, 115, 40, 49, 44, 32, 50, 44, 32, 49, 41, 32, 43, 32, 49]⟩ : ByteArray)] rfl (by (try simp only [List.map_toArray, List.map_cons, List.map_nil]); first | done | rfl | (simp only [List.length_drop, List.length_take]; rfl)) ?_; (with_reducible refine (computuslaw23_check.calls (⟨#[103, 101, 110, 101, 114, 97, 116, 101, 95, 115, 101, 114, 105, 101, 115, 40, 49, 44, 32, 50, 44, 32, 49, 41, 32, 43, 32, 49]⟩ : ByteArray) t174 t175 t176 t177 _ (HTW0.out.below (by repeat (first | (with_reducible first | exact HB.out | apply below_alloc | apply pw_below_drewN | apply below_drew1 ) | exact HB.out))) A4.out).mono ?_); rintro e w19 ⟨rfl, hb⟩; refine ⟨_, rfl, ?_⟩; have n0_ := Aside0.mk (below_step (by repeat (first | (with_reducible first | exact HB.out | apply below_alloc | apply pw_below_drewN | apply below_drew1) | exact HB.out)) hb); clear HB; have HB := n0_; clear n0_; (try clear hb); (try clear hb2); (try clear hk); (try clear hi)))
        go_ret
        exact ⟨by first | rfl | (simp [errW_none, errW_some] <;> rfl) | (simp [*, errW_none, errW_some] <;> rfl), by repeat (first | (with_reducible first | exact HB.out | apply below_alloc | apply pw_below_drewN | apply below_drew1) | exact HB.out)⟩
      ·rw [if_neg c10] at H
       have c10b0 : (t173 == 32) = false := beq_eq_false_iff_ne.mpr c10
       have c10b1 : (t173 != 32) = true := bne_iff_ne.mpr c10
       obtain rfl := Option.some.inj H
       go_enter Tryd.func7, Tryd.ntmps7
       go_wp2_with (first | ((with_reducible refine gate_callee (f := 9) rfl ?_); refine goesL_ (some 18) rfl rfl Tryd.func9 (by kernel_rfl) rfl #[.string (⟨#[49, 32, 43, 32, 49, 46, 53]⟩ : ByteArray)] rfl (by (try simp only [List.map_toArray, List.map_cons, List.map_nil]); first | done | rfl | (simp only [List.length_drop, List.length_take]; rfl)) ?_; (with_reducible refine (computuslaw23_check.calls (⟨#[49, 32, 43, 32, 49, 46, 53]⟩ : ByteArray) t162 t163 t164 t165 _ (HTW0.out.below (by repeat (first | (with_reducible first | exact HB.out | apply below_alloc | apply pw_below_drewN | apply below_drew1 ) | exact HB.out))) A1.out).mono ?_); rintro e w20 ⟨rfl, hb⟩; refine ⟨_, rfl, ?_⟩; have n0_ := Aside0.mk (below_step (by repeat (first | (with_reducible first | exact HB.out | apply below_alloc | apply pw_below_drewN | apply below_drew1) | exact HB.out)) hb); clear HB; have HB := n0_; clear n0_; (try clear hb); (try clear hb2); (try clear hk); (try clear hi)) | ((with_reducible refine gate_callee (f := 9) rfl ?_); refine goesL_ (some 24) rfl rfl Tryd.func9 (by kernel_rfl) rfl #[.string (⟨#[100, 97, 116, 101, 32, 39, 50, 48, 50, 52, 45, 48, 49, 45, 48, 49, 39, 32, 43, 32, 49]⟩ : ByteArray)] rfl (by (try simp only [List.map_toArray, List.map_cons, List.map_nil]); first | done | rfl | (simp only [List.length_drop, List.length_take]; rfl)) ?_; (with_reducible refine (computuslaw23_check.calls (⟨#[100, 97, 116, 101, 32, 39, 50, 48, 50, 52, 45, 48, 49, 45, 48, 49, 39, 32, 43, 32, 49]⟩ : ByteArray) t166 t167 t168 t169 _ (HTW0.out.below (by repeat (first | (with_reducible first | exact HB.out | apply below_alloc | apply pw_below_drewN | apply below_drew1 ) | exact HB.out))) A2.out).mono ?_); rintro e w21 ⟨rfl, hb⟩; refine ⟨_, rfl, ?_⟩; have n0_ := Aside0.mk (below_step (by repeat (first | (with_reducible first | exact HB.out | apply below_alloc | apply pw_below_drewN | apply below_drew1) | exact HB.out)) hb); clear HB; have HB := n0_; clear n0_; (try clear hb); (try clear hb2); (try clear hk); (try clear hi)) | ((with_reducible refine gate_callee (f := 9) rfl ?_); refine goesL_ (some 30) rfl rfl Tryd.func9 (by kernel_rfl) rfl #[.string (⟨#[49, 32, 43, 32, 116, 114, 117, 101]⟩ : ByteArray)] rfl (by (try simp only [List.map_toArray, List.map_cons, List.map_nil]); first | done | rfl | (simp only [List.length_drop, List.length_take]; rfl)) ?_; (with_reducible refine (computuslaw23_check.calls (⟨#[49, 32, 43, 32, 116, 114, 117, 101]⟩ : ByteArray) t170 t171 t172 t173 _ (HTW0.out.below (by repeat (first | (with_reducible first | exact HB.out | apply below_alloc | apply pw_below_drewN | apply below_drew1 ) | exact HB.out))) A3.out).mono ?_); rintro e w22 ⟨rfl, hb⟩; refine ⟨_, rfl, ?_⟩; have n0_ := Aside0.mk (below_step (by repeat (first | (with_reducible first | exact HB.out | apply below_alloc | apply pw_below_drewN | apply below_drew1) | exact HB.out)) hb); clear HB; have HB := n0_; clear n0_; (try clear hb); (try clear hb2); (try clear hk); (try clear hi)) | ((with_reducible refine gate_callee (f := 9) rfl ?_); refine goesL_ (some 36) rfl rfl Tryd.func9 (by kernel_rfl) rfl #[.string (⟨#[103, 101, 110, 101, 114, 97, 116, 101, 95, 115, 101, 114, 105, 101, 115, 40, 49, 44, 32, 50, 44, 32, 49, 41, 32, 43, 32, 49]⟩ : ByteArray)] rfl (by (try simp only [List.map_toArray, List.map_cons, List.map_nil]); first | done | rfl | (simp only [List.length_drop, List.length_take]; rfl)) ?_; (with_reducible refine (computuslaw23_check.calls (⟨#[103, 101, 110, 101, 114, 97, 116, 101, 95, 115, 101, 114, 105, 101, 115, 40, 49, 44, 32, 50, 44, 32, 49, 41, 32, 43, 32, 49]⟩ : ByteArray) t174 t175 t176 t177 _ (HTW0.out.below (by repeat (first | (with_reducible first | exact HB.out | apply below_alloc | apply pw_below_drewN | apply below_drew1 ) | exact HB.out))) A4.out).mono ?_); rintro e w23 ⟨rfl, hb⟩; refine ⟨_, rfl, ?_⟩; have n0_ := Aside0.mk (below_step (by repeat (first | (with_reducible first | exact HB.out | apply below_alloc | apply pw_below_drewN | apply below_drew1) | exact HB.out)) hb); clear HB; have HB := n0_; clear n0_; (try clear hb); (try clear hb2); (try clear hk); (try clear hi)))
       go_ret
       exact ⟨by first | rfl | (simp [errW_none, errW_some] <;> rfl) | (simp [*, errW_none, errW_some] <;> rfl), by repeat (first | (with_reducible first | exact HB.out | apply below_alloc | apply pw_below_drewN | apply below_drew1) | exact HB.out)⟩
     ·rw [if_neg c9] at H
      have c9b0 : (t172 == 2) = false := beq_eq_false_iff_ne.mpr c9
      have c9b1 : (t172 != 2) = true := bne_iff_ne.mpr c9
      obtain rfl := Option.some.inj H
      go_enter Tryd.func7, Tryd.ntmps7
      go_wp2_with (first | ((with_reducible refine gate_callee (f := 9) rfl ?_); refine goesL_ (some 18) rfl rfl Tryd.func9 (by kernel_rfl) rfl #[.string (⟨#[49, 32, 43, 32, 49, 46, 53]⟩ : ByteArray)] rfl (by (try simp only [List.map_toArray, List.map_cons, List.map_nil]); first | done | rfl | (simp only [List.length_drop, List.length_take]; rfl)) ?_; (with_reducible refine (computuslaw23_check.calls (⟨#[49, 32, 43, 32, 49, 46, 53]⟩ : ByteArray) t162 t163 t164 t165 _ (HTW0.out.below (by repeat (first | (with_reducible first | exact HB.out | apply below_alloc | apply pw_below_drewN | apply below_drew1 ) | exact HB.out))) A1.out).mono ?_); rintro e w24 ⟨rfl, hb⟩; refine ⟨_, rfl, ?_⟩; have n0_ := Aside0.mk (below_step (by repeat (first | (with_reducible first | exact HB.out | apply below_alloc | apply pw_below_drewN | apply below_drew1) | exact HB.out)) hb); clear HB; have HB := n0_; clear n0_; (try clear hb); (try clear hb2); (try clear hk); (try clear hi)) | ((with_reducible refine gate_callee (f := 9) rfl ?_); refine goesL_ (some 24) rfl rfl Tryd.func9 (by kernel_rfl) rfl #[.string (⟨#[100, 97, 116, 101, 32, 39, 50, 48, 50, 52, 45, 48, 49, 45, 48, 49, 39, 32, 43, 32, 49]⟩ : ByteArray)] rfl (by (try simp only [List.map_toArray, List.map_cons, List.map_nil]); first | done | rfl | (simp only [List.length_drop, List.length_take]; rfl)) ?_; (with_reducible refine (computuslaw23_check.calls (⟨#[100, 97, 116, 101, 32, 39, 50, 48, 50, 52, 45, 48, 49, 45, 48, 49, 39, 32, 43, 32, 49]⟩ : ByteArray) t166 t167 t168 t169 _ (HTW0.out.below (by repeat (first | (with_reducible first | exact HB.out | apply below_alloc | apply pw_below_drewN | apply below_drew1 ) | exact HB.out))) A2.out).mono ?_); rintro e w25 ⟨rfl, hb⟩; refine ⟨_, rfl, ?_⟩; have n0_ := Aside0.mk (below_step (by repeat (first | (with_reducible first | exact HB.out | apply below_alloc | apply pw_below_drewN | apply below_drew1) | exact HB.out)) hb); clear HB; have HB := n0_; clear n0_; (try clear hb); (try clear hb2); (try clear hk); (try clear hi)) | ((with_reducible refine gate_callee (f := 9) rfl ?_); refine goesL_ (some 30) rfl rfl Tryd.func9 (by kernel_rfl) rfl #[.string (⟨#[49, 32, 43, 32, 116, 114, 117, 101]⟩ : ByteArray)] rfl (by (try simp only [List.map_toArray, List.map_cons, List.map_nil]); first | done | rfl | (simp only [List.length_drop, List.length_take]; rfl)) ?_; (with_reducible refine (computuslaw23_check.calls (⟨#[49, 32, 43, 32, 116, 114, 117, 101]⟩ : ByteArray) t170 t171 t172 t173 _ (HTW0.out.below (by repeat (first | (with_reducible first | exact HB.out | apply below_alloc | apply pw_below_drewN | apply below_drew1 ) | exact HB.out))) A3.out).mono ?_); rintro e w26 ⟨rfl, hb⟩; refine ⟨_, rfl, ?_⟩; have n0_ := Aside0.mk (below_step (by repeat (first | (with_reducible first | exact HB.out | apply below_alloc | apply pw_below_drewN | apply below_drew1) | exact HB.out)) hb); clear HB; have HB := n0_; clear n0_; (try clear hb); (try clear hb2); (try clear hk); (try clear hi)) | ((with_reducible refine gate_callee (f := 9) rfl ?_); refine goesL_ (some 36) rfl rfl Tryd.func9 (by kernel_rfl) rfl #[.string (⟨#[103, 101, 110, 101, 114, 97, 116, 101, 95, 115, 101, 114, 105, 101, 115, 40, 49, 44, 32, 50, 44, 32, 49, 41, 32, 43, 32, 49]⟩ : ByteArray)] rfl (by (try simp only [List.map_toArray, List.map_cons, List.map_nil]); first | done | rfl | (simp only [List.length_drop, List.length_take]; rfl)) ?_; (with_reducible refine (computuslaw23_check.calls (⟨#[103, 101, 110, 101, 114, 97, 116, 101, 95, 115, 101, 114, 105, 101, 115, 40, 49, 44, 32, 50, 44, 32, 49, 41, 32, 43, 32, 49]⟩ : ByteArray) t174 t175 t176 t177 _ (HTW0.out.below (by repeat (first | (with_reducible first | exact HB.out | apply below_alloc | apply pw_below_drewN | apply below_drew1 ) | exact HB.out))) A4.out).mono ?_); rintro e w27 ⟨rfl, hb⟩; refine ⟨_, rfl, ?_⟩; have n0_ := Aside0.mk (below_step (by repeat (first | (with_reducible first | exact HB.out | apply below_alloc | apply pw_below_drewN | apply below_drew1) | exact HB.out)) hb); clear HB; have HB := n0_; clear n0_; (try clear hb); (try clear hb2); (try clear hk); (try clear hi)))
      go_ret
      exact ⟨by first | rfl | (simp [errW_none, errW_some] <;> rfl) | (simp [*, errW_none, errW_some] <;> rfl), by repeat (first | (with_reducible first | exact HB.out | apply below_alloc | apply pw_below_drewN | apply below_drew1) | exact HB.out)⟩
    ·rw [if_neg c8] at H
     have c8b0 : (t169 == 0) = false := beq_eq_false_iff_ne.mpr c8
     have c8b1 : (t169 != 0) = true := bne_iff_ne.mpr c8
     obtain rfl := Option.some.inj H
     go_enter Tryd.func7, Tryd.ntmps7
     go_wp2_with (first | ((with_reducible refine gate_callee (f := 9) rfl ?_); refine goesL_ (some 18) rfl rfl Tryd.func9 (by kernel_rfl) rfl #[.string (⟨#[49, 32, 43, 32, 49, 46, 53]⟩ : ByteArray)] rfl (by (try simp only [List.map_toArray, List.map_cons, List.map_nil]); first | done | rfl | (simp only [List.length_drop, List.length_take]; rfl)) ?_; (with_reducible refine (computuslaw23_check.calls (⟨#[49, 32, 43, 32, 49, 46, 53]⟩ : ByteArray) t162 t163 t164 t165 _ (HTW0.out.below (by repeat (first | (with_reducible first | exact HB.out | apply below_alloc | apply pw_below_drewN | apply below_drew1 ) | exact HB.out))) A1.out).mono ?_); rintro e w28 ⟨rfl, hb⟩; refine ⟨_, rfl, ?_⟩; have n0_ := Aside0.mk (below_step (by repeat (first | (with_reducible first | exact HB.out | apply below_alloc | apply pw_below_drewN | apply below_drew1) | exact HB.out)) hb); clear HB; have HB := n0_; clear n0_; (try clear hb); (try clear hb2); (try clear hk); (try clear hi)) | ((with_reducible refine gate_callee (f := 9) rfl ?_); refine goesL_ (some 24) rfl rfl Tryd.func9 (by kernel_rfl) rfl #[.string (⟨#[100, 97, 116, 101, 32, 39, 50, 48, 50, 52, 45, 48, 49, 45, 48, 49, 39, 32, 43, 32, 49]⟩ : ByteArray)] rfl (by (try simp only [List.map_toArray, List.map_cons, List.map_nil]); first | done | rfl | (simp only [List.length_drop, List.length_take]; rfl)) ?_; (with_reducible refine (computuslaw23_check.calls (⟨#[100, 97, 116, 101, 32, 39, 50, 48, 50, 52, 45, 48, 49, 45, 48, 49, 39, 32, 43, 32, 49]⟩ : ByteArray) t166 t167 t168 t169 _ (HTW0.out.below (by repeat (first | (with_reducible first | exact HB.out | apply below_alloc | apply pw_below_drewN | apply below_drew1 ) | exact HB.out))) A2.out).mono ?_); rintro e w29 ⟨rfl, hb⟩; refine ⟨_, rfl, ?_⟩; have n0_ := Aside0.mk (below_step (by repeat (first | (with_reducible first | exact HB.out | apply below_alloc | apply pw_below_drewN | apply below_drew1) | exact HB.out)) hb); clear HB; have HB := n0_; clear n0_; (try clear hb); (try clear hb2); (try clear hk); (try clear hi)) | ((with_reducible refine gate_callee (f := 9) rfl ?_); refine goesL_ (some 30) rfl rfl Tryd.func9 (by kernel_rfl) rfl #[.string (⟨#[49, 32, 43, 32, 116, 114, 117, 101]⟩ : ByteArray)] rfl (by (try simp only [List.map_toArray, List.map_cons, List.map_nil]); first | done | rfl | (simp only [List.length_drop, List.length_take]; rfl)) ?_; (with_reducible refine (computuslaw23_check.calls (⟨#[49, 32, 43, 32, 116, 114, 117, 101]⟩ : ByteArray) t170 t171 t172 t173 _ (HTW0.out.below (by repeat (first | (with_reducible first | exact HB.out | apply below_alloc | apply pw_below_drewN | apply below_drew1 ) | exact HB.out))) A3.out).mono ?_); rintro e w30 ⟨rfl, hb⟩; refine ⟨_, rfl, ?_⟩; have n0_ := Aside0.mk (below_step (by repeat (first | (with_reducible first | exact HB.out | apply below_alloc | apply pw_below_drewN | apply below_drew1) | exact HB.out)) hb); clear HB; have HB := n0_; clear n0_; (try clear hb); (try clear hb2); (try clear hk); (try clear hi)) | ((with_reducible refine gate_callee (f := 9) rfl ?_); refine goesL_ (some 36) rfl rfl Tryd.func9 (by kernel_rfl) rfl #[.string (⟨#[103, 101, 110, 101, 114, 97, 116, 101, 95, 115, 101, 114, 105, 101, 115, 40, 49, 44, 32, 50, 44, 32, 49, 41, 32, 43, 32, 49]⟩ : ByteArray)] rfl (by (try simp only [List.map_toArray, List.map_cons, List.map_nil]); first | done | rfl | (simp only [List.length_drop, List.length_take]; rfl)) ?_; (with_reducible refine (computuslaw23_check.calls (⟨#[103, 101, 110, 101, 114, 97, 116, 101, 95, 115, 101, 114, 105, 101, 115, 40, 49, 44, 32, 50, 44, 32, 49, 41, 32, 43, 32, 49]⟩ : ByteArray) t174 t175 t176 t177 _ (HTW0.out.below (by repeat (first | (with_reducible first | exact HB.out | apply below_alloc | apply pw_below_drewN | apply below_drew1 ) | exact HB.out))) A4.out).mono ?_); rintro e w31 ⟨rfl, hb⟩; refine ⟨_, rfl, ?_⟩; have n0_ := Aside0.mk (below_step (by repeat (first | (with_reducible first | exact HB.out | apply below_alloc | apply pw_below_drewN | apply below_drew1) | exact HB.out)) hb); clear HB; have HB := n0_; clear n0_; (try clear hb); (try clear hb2); (try clear hk); (try clear hi)))
     go_ret
     exact ⟨by first | rfl | (simp [errW_none, errW_some] <;> rfl) | (simp [*, errW_none, errW_some] <;> rfl), by repeat (first | (with_reducible first | exact HB.out | apply below_alloc | apply pw_below_drewN | apply below_drew1) | exact HB.out)⟩
   ·rw [if_neg c7] at H
    have c7b0 : (t166 == 5) = false := beq_eq_false_iff_ne.mpr c7
    have c7b1 : (t166 != 5) = true := bne_iff_ne.mpr c7
    obtain rfl := Option.some.inj H
    go_enter Tryd.func7, Tryd.ntmps7
    go_wp2_with (first | ((with_reducible refine gate_callee (f := 9) rfl ?_); refine goesL_ (some 18) rfl rfl Tryd.func9 (by kernel_rfl) rfl #[.string (⟨#[49, 32, 43, 32, 49, 46, 53]⟩ : ByteArray)] rfl (by (try simp only [List.map_toArray, List.map_cons, List.map_nil]); first | done | rfl | (simp only [List.length_drop, List.length_take]; rfl)) ?_; (with_reducible refine (computuslaw23_check.calls (⟨#[49, 32, 43, 32, 49, 46, 53]⟩ : ByteArray) t162 t163 t164 t165 _ (HTW0.out.below (by repeat (first | (with_reducible first | exact HB.out | apply below_alloc | apply pw_below_drewN | apply below_drew1 ) | exact HB.out))) A1.out).mono ?_); rintro e w32 ⟨rfl, hb⟩; refine ⟨_, rfl, ?_⟩; have n0_ := Aside0.mk (below_step (by repeat (first | (with_reducible first | exact HB.out | apply below_alloc | apply pw_below_drewN | apply below_drew1) | exact HB.out)) hb); clear HB; have HB := n0_; clear n0_; (try clear hb); (try clear hb2); (try clear hk); (try clear hi)) | ((with_reducible refine gate_callee (f := 9) rfl ?_); refine goesL_ (some 24) rfl rfl Tryd.func9 (by kernel_rfl) rfl #[.string (⟨#[100, 97, 116, 101, 32, 39, 50, 48, 50, 52, 45, 48, 49, 45, 48, 49, 39, 32, 43, 32, 49]⟩ : ByteArray)] rfl (by (try simp only [List.map_toArray, List.map_cons, List.map_nil]); first | done | rfl | (simp only [List.length_drop, List.length_take]; rfl)) ?_; (with_reducible refine (computuslaw23_check.calls (⟨#[100, 97, 116, 101, 32, 39, 50, 48, 50, 52, 45, 48, 49, 45, 48, 49, 39, 32, 43, 32, 49]⟩ : ByteArray) t166 t167 t168 t169 _ (HTW0.out.below (by repeat (first | (with_reducible first | exact HB.out | apply below_alloc | apply pw_below_drewN | apply below_drew1 ) | exact HB.out))) A2.out).mono ?_); rintro e w33 ⟨rfl, hb⟩; refine ⟨_, rfl, ?_⟩; have n0_ := Aside0.mk (below_step (by repeat (first | (with_reducible first | exact HB.out | apply below_alloc | apply pw_below_drewN | apply below_drew1) | exact HB.out)) hb); clear HB; have HB := n0_; clear n0_; (try clear hb); (try clear hb2); (try clear hk); (try clear hi)) | ((with_reducible refine gate_callee (f := 9) rfl ?_); refine goesL_ (some 30) rfl rfl Tryd.func9 (by kernel_rfl) rfl #[.string (⟨#[49, 32, 43, 32, 116, 114, 117, 101]⟩ : ByteArray)] rfl (by (try simp only [List.map_toArray, List.map_cons, List.map_nil]); first | done | rfl | (simp only [List.length_drop, List.length_take]; rfl)) ?_; (with_reducible refine (computuslaw23_check.calls (⟨#[49, 32, 43, 32, 116, 114, 117, 101]⟩ : ByteArray) t170 t171 t172 t173 _ (HTW0.out.below (by repeat (first | (with_reducible first | exact HB.out | apply below_alloc | apply pw_below_drewN | apply below_drew1 ) | exact HB.out))) A3.out).mono ?_); rintro e w34 ⟨rfl, hb⟩; refine ⟨_, rfl, ?_⟩; have n0_ := Aside0.mk (below_step (by repeat (first | (with_reducible first | exact HB.out | apply below_alloc | apply pw_below_drewN | apply below_drew1) | exact HB.out)) hb); clear HB; have HB := n0_; clear n0_; (try clear hb); (try clear hb2); (try clear hk); (try clear hi)) | ((with_reducible refine gate_callee (f := 9) rfl ?_); refine goesL_ (some 36) rfl rfl Tryd.func9 (by kernel_rfl) rfl #[.string (⟨#[103, 101, 110, 101, 114, 97, 116, 101, 95, 115, 101, 114, 105, 101, 115, 40, 49, 44, 32, 50, 44, 32, 49, 41, 32, 43, 32, 49]⟩ : ByteArray)] rfl (by (try simp only [List.map_toArray, List.map_cons, List.map_nil]); first | done | rfl | (simp only [List.length_drop, List.length_take]; rfl)) ?_; (with_reducible refine (computuslaw23_check.calls (⟨#[103, 101, 110, 101, 114, 97, 116, 101, 95, 115, 101, 114, 105, 101, 115, 40, 49, 44, 32, 50, 44, 32, 49, 41, 32, 43, 32, 49]⟩ : ByteArray) t174 t175 t176 t177 _ (HTW0.out.below (by repeat (first | (with_reducible first | exact HB.out | apply below_alloc | apply pw_below_drewN | apply below_drew1 ) | exact HB.out))) A4.out).mono ?_); rintro e w35 ⟨rfl, hb⟩; refine ⟨_, rfl, ?_⟩; have n0_ := Aside0.mk (below_step (by repeat (first | (with_reducible first | exact HB.out | apply below_alloc | apply pw_below_drewN | apply below_drew1) | exact HB.out)) hb); clear HB; have HB := n0_; clear n0_; (try clear hb); (try clear hb2); (try clear hk); (try clear hi)))
    go_ret
    exact ⟨by first | rfl | (simp [errW_none, errW_some] <;> rfl) | (simp [*, errW_none, errW_some] <;> rfl), by repeat (first | (with_reducible first | exact HB.out | apply below_alloc | apply pw_below_drewN | apply below_drew1) | exact HB.out)⟩
  ·rw [if_neg c6] at H
   have c6b0 : (t165 == 0) = false := beq_eq_false_iff_ne.mpr c6
   have c6b1 : (t165 != 0) = true := bne_iff_ne.mpr c6
   obtain rfl := Option.some.inj H
   go_enter Tryd.func7, Tryd.ntmps7
   go_wp2_with (first | ((with_reducible refine gate_callee (f := 9) rfl ?_); refine goesL_ (some 18) rfl rfl Tryd.func9 (by kernel_rfl) rfl #[.string (⟨#[49, 32, 43, 32, 49, 46, 53]⟩ : ByteArray)] rfl (by (try simp only [List.map_toArray, List.map_cons, List.map_nil]); first | done | rfl | (simp only [List.length_drop, List.length_take]; rfl)) ?_; (with_reducible refine (computuslaw23_check.calls (⟨#[49, 32, 43, 32, 49, 46, 53]⟩ : ByteArray) t162 t163 t164 t165 _ (HTW0.out.below (by repeat (first | (with_reducible first | exact HB.out | apply below_alloc | apply pw_below_drewN | apply below_drew1 ) | exact HB.out))) A1.out).mono ?_); rintro e w36 ⟨rfl, hb⟩; refine ⟨_, rfl, ?_⟩; have n0_ := Aside0.mk (below_step (by repeat (first | (with_reducible first | exact HB.out | apply below_alloc | apply pw_below_drewN | apply below_drew1) | exact HB.out)) hb); clear HB; have HB := n0_; clear n0_; (try clear hb); (try clear hb2); (try clear hk); (try clear hi)) | ((with_reducible refine gate_callee (f := 9) rfl ?_); refine goesL_ (some 24) rfl rfl Tryd.func9 (by kernel_rfl) rfl #[.string (⟨#[100, 97, 116, 101, 32, 39, 50, 48, 50, 52, 45, 48, 49, 45, 48, 49, 39, 32, 43, 32, 49]⟩ : ByteArray)] rfl (by (try simp only [List.map_toArray, List.map_cons, List.map_nil]); first | done | rfl | (simp only [List.length_drop, List.length_take]; rfl)) ?_; (with_reducible refine (computuslaw23_check.calls (⟨#[100, 97, 116, 101, 32, 39, 50, 48, 50, 52, 45, 48, 49, 45, 48, 49, 39, 32, 43, 32, 49]⟩ : ByteArray) t166 t167 t168 t169 _ (HTW0.out.below (by repeat (first | (with_reducible first | exact HB.out | apply below_alloc | apply pw_below_drewN | apply below_drew1 ) | exact HB.out))) A2.out).mono ?_); rintro e w37 ⟨rfl, hb⟩; refine ⟨_, rfl, ?_⟩; have n0_ := Aside0.mk (below_step (by repeat (first | (with_reducible first | exact HB.out | apply below_alloc | apply pw_below_drewN | apply below_drew1) | exact HB.out)) hb); clear HB; have HB := n0_; clear n0_; (try clear hb); (try clear hb2); (try clear hk); (try clear hi)) | ((with_reducible refine gate_callee (f := 9) rfl ?_); refine goesL_ (some 30) rfl rfl Tryd.func9 (by kernel_rfl) rfl #[.string (⟨#[49, 32, 43, 32, 116, 114, 117, 101]⟩ : ByteArray)] rfl (by (try simp only [List.map_toArray, List.map_cons, List.map_nil]); first | done | rfl | (simp only [List.length_drop, List.length_take]; rfl)) ?_; (with_reducible refine (computuslaw23_check.calls (⟨#[49, 32, 43, 32, 116, 114, 117, 101]⟩ : ByteArray) t170 t171 t172 t173 _ (HTW0.out.below (by repeat (first | (with_reducible first | exact HB.out | apply below_alloc | apply pw_below_drewN | apply below_drew1 ) | exact HB.out))) A3.out).mono ?_); rintro e w38 ⟨rfl, hb⟩; refine ⟨_, rfl, ?_⟩; have n0_ := Aside0.mk (below_step (by repeat (first | (with_reducible first | exact HB.out | apply below_alloc | apply pw_below_drewN | apply below_drew1) | exact HB.out)) hb); clear HB; have HB := n0_; clear n0_; (try clear hb); (try clear hb2); (try clear hk); (try clear hi)) | ((with_reducible refine gate_callee (f := 9) rfl ?_); refine goesL_ (some 36) rfl rfl Tryd.func9 (by kernel_rfl) rfl #[.string (⟨#[103, 101, 110, 101, 114, 97, 116, 101, 95, 115, 101, 114, 105, 101, 115, 40, 49, 44, 32, 50, 44, 32, 49, 41, 32, 43, 32, 49]⟩ : ByteArray)] rfl (by (try simp only [List.map_toArray, List.map_cons, List.map_nil]); first | done | rfl | (simp only [List.length_drop, List.length_take]; rfl)) ?_; (with_reducible refine (computuslaw23_check.calls (⟨#[103, 101, 110, 101, 114, 97, 116, 101, 95, 115, 101, 114, 105, 101, 115, 40, 49, 44, 32, 50, 44, 32, 49, 41, 32, 43, 32, 49]⟩ : ByteArray) t174 t175 t176 t177 _ (HTW0.out.below (by repeat (first | (with_reducible first | exact HB.out | apply below_alloc | apply pw_below_drewN | apply below_drew1 ) | exact HB.out))) A4.out).mono ?_); rintro e w39 ⟨rfl, hb⟩; refine ⟨_, rfl, ?_⟩; have n0_ := Aside0.mk (below_step (by repeat (first | (with_reducible first | exact HB.out | apply below_alloc | apply pw_below_drewN | apply below_drew1) | exact HB.out)) hb); clear HB; have HB := n0_; clear n0_; (try clear hb); (try clear hb2); (try clear hk); (try clear hi)))
   go_ret
   exact ⟨by first | rfl | (simp [errW_none, errW_some] <;> rfl) | (simp [*, errW_none, errW_some] <;> rfl), by repeat (first | (with_reducible first | exact HB.out | apply below_alloc | apply pw_below_drewN | apply below_drew1) | exact HB.out)⟩
 ·rw [if_neg c5] at H
  have c5b0 : (t162 == 3) = false := beq_eq_false_iff_ne.mpr c5
  have c5b1 : (t162 != 3) = true := bne_iff_ne.mpr c5
  obtain rfl := Option.some.inj H
  go_enter Tryd.func7, Tryd.ntmps7
  go_wp2_with (first | ((with_reducible refine gate_callee (f := 9) rfl ?_); refine goesL_ (some 18) rfl rfl Tryd.func9 (by kernel_rfl) rfl #[.string (⟨#[49, 32, 43, 32, 49, 46, 53]⟩ : ByteArray)] rfl (by (try simp only [List.map_toArray, List.map_cons, List.map_nil]); first | done | rfl | (simp only [List.length_drop, List.length_take]; rfl)) ?_; (with_reducible refine (computuslaw23_check.calls (⟨#[49, 32, 43, 32, 49, 46, 53]⟩ : ByteArray) t162 t163 t164 t165 _ (HTW0.out.below (by repeat (first | (with_reducible first | exact HB.out | apply below_alloc | apply pw_below_drewN | apply below_drew1 ) | exact HB.out))) A1.out).mono ?_); rintro e w40 ⟨rfl, hb⟩; refine ⟨_, rfl, ?_⟩; have n0_ := Aside0.mk (below_step (by repeat (first | (with_reducible first | exact HB.out | apply below_alloc | apply pw_below_drewN | apply below_drew1) | exact HB.out)) hb); clear HB; have HB := n0_; clear n0_; (try clear hb); (try clear hb2); (try clear hk); (try clear hi)) | ((with_reducible refine gate_callee (f := 9) rfl ?_); refine goesL_ (some 24) rfl rfl Tryd.func9 (by kernel_rfl) rfl #[.string (⟨#[100, 97, 116, 101, 32, 39, 50, 48, 50, 52, 45, 48, 49, 45, 48, 49, 39, 32, 43, 32, 49]⟩ : ByteArray)] rfl (by (try simp only [List.map_toArray, List.map_cons, List.map_nil]); first | done | rfl | (simp only [List.length_drop, List.length_take]; rfl)) ?_; (with_reducible refine (computuslaw23_check.calls (⟨#[100, 97, 116, 101, 32, 39, 50, 48, 50, 52, 45, 48, 49, 45, 48, 49, 39, 32, 43, 32, 49]⟩ : ByteArray) t166 t167 t168 t169 _ (HTW0.out.below (by repeat (first | (with_reducible first | exact HB.out | apply below_alloc | apply pw_below_drewN | apply below_drew1 ) | exact HB.out))) A2.out).mono ?_); rintro e w41 ⟨rfl, hb⟩; refine ⟨_, rfl, ?_⟩; have n0_ := Aside0.mk (below_step (by repeat (first | (with_reducible first | exact HB.out | apply below_alloc | apply pw_below_drewN | apply below_drew1) | exact HB.out)) hb); clear HB; have HB := n0_; clear n0_; (try clear hb); (try clear hb2); (try clear hk); (try clear hi)) | ((with_reducible refine gate_callee (f := 9) rfl ?_); refine goesL_ (some 30) rfl rfl Tryd.func9 (by kernel_rfl) rfl #[.string (⟨#[49, 32, 43, 32, 116, 114, 117, 101]⟩ : ByteArray)] rfl (by (try simp only [List.map_toArray, List.map_cons, List.map_nil]); first | done | rfl | (simp only [List.length_drop, List.length_take]; rfl)) ?_; (with_reducible refine (computuslaw23_check.calls (⟨#[49, 32, 43, 32, 116, 114, 117, 101]⟩ : ByteArray) t170 t171 t172 t173 _ (HTW0.out.below (by repeat (first | (with_reducible first | exact HB.out | apply below_alloc | apply pw_below_drewN | apply below_drew1 ) | exact HB.out))) A3.out).mono ?_); rintro e w42 ⟨rfl, hb⟩; refine ⟨_, rfl, ?_⟩; have n0_ := Aside0.mk (below_step (by repeat (first | (with_reducible first | exact HB.out | apply below_alloc | apply pw_below_drewN | apply below_drew1) | exact HB.out)) hb); clear HB; have HB := n0_; clear n0_; (try clear hb); (try clear hb2); (try clear hk); (try clear hi)) | ((with_reducible refine gate_callee (f := 9) rfl ?_); refine goesL_ (some 36) rfl rfl Tryd.func9 (by kernel_rfl) rfl #[.string (⟨#[103, 101, 110, 101, 114, 97, 116, 101, 95, 115, 101, 114, 105, 101, 115, 40, 49, 44, 32, 50, 44, 32, 49, 41, 32, 43, 32, 49]⟩ : ByteArray)] rfl (by (try simp only [List.map_toArray, List.map_cons, List.map_nil]); first | done | rfl | (simp only [List.length_drop, List.length_take]; rfl)) ?_; (with_reducible refine (computuslaw23_check.calls (⟨#[103, 101, 110, 101, 114, 97, 116, 101, 95, 115, 101, 114, 105, 101, 115, 40, 49, 44, 32, 50, 44, 32, 49, 41, 32, 43, 32, 49]⟩ : ByteArray) t174 t175 t176 t177 _ (HTW0.out.below (by repeat (first | (with_reducible first | exact HB.out | apply below_alloc | apply pw_below_drewN | apply below_drew1 ) | exact HB.out))) A4.out).mono ?_); rintro e w43 ⟨rfl, hb⟩; refine ⟨_, rfl, ?_⟩; have n0_ := Aside0.mk (below_step (by repeat (first | (with_reducible first | exact HB.out | apply below_alloc | apply pw_below_drewN | apply below_drew1) | exact HB.out)) hb); clear HB; have HB := n0_; clear n0_; (try clear hb); (try clear hb2); (try clear hk); (try clear hi)))
  go_ret
  exact ⟨by first | rfl | (simp [errW_none, errW_some] <;> rfl) | (simp [*, errW_none, errW_some] <;> rfl), by repeat (first | (with_reducible first | exact HB.out | apply below_alloc | apply pw_below_drewN | apply below_drew1) | exact HB.out)⟩
mutual
def computusref23_Find.j0 : Nat → ByteArray → List Int → Bool → Bool → Option (Int × Bool × Bool)
 | 0, _, _, _, _ => none
 | k + 1, x0, x1, x8, x24 => if x24 = true then (if 0 < (x1.length : Int) then (if 1 < (x1.length : Int) then (if (rd x1 0) = 2 then (if (rd x1 1) = 2 then (some (1, false, true)) else (if (rd x1 1) = 3 then (some (1, false, true)) else (if (rd x1 0) = (rd x1 1) then (if (rd x1 0) ≥ 4 then (if (rd x1 0) ≤ 8 then (some (1, false, true)) else (if x8 = true then (if (rd x1 0) = 1 then (if (rd x1 1) = 1 then (some (1, false, true)) else (computusref23_Find.j1 k x0 x1)) else (computusref23_Find.j1 k x0 x1)) else (computusref23_Find.j1 k x0 x1))) else (if x8 = true then (if (rd x1 0) = 1 then (if (rd x1 1) = 1 then (some (1, false, true)) else (computusref23_Find.j1 k x0 x1)) else (computusref23_Find.j1 k x0 x1)) else (computusref23_Find.j1 k x0 x1))) else (if x8 = true then (if (rd x1 0) = 1 then (if (rd x1 1) = 1 then (some (1, false, true)) else (computusref23_Find.j1 k x0 x1)) else (computusref23_Find.j1 k x0 x1)) else (computusref23_Find.j1 k x0 x1))))) else (if (rd x1 0) = 3 then (if (rd x1 1) = 2 then (some (1, false, true)) else (if (rd x1 1) = 3 then (some (1, false, true)) else (if (rd x1 0) = (rd x1 1) then (if (rd x1 0) ≥ 4 then (if (rd x1 0) ≤ 8 then (some (1, false, true)) else (if x8 = true then (if (rd x1 0) = 1 then (if (rd x1 1) = 1 then (some (1, false, true)) else (computusref23_Find.j1 k x0 x1)) else (computusref23_Find.j1 k x0 x1)) else (computusref23_Find.j1 k x0 x1))) else (if x8 = true then (if (rd x1 0) = 1 then (if (rd x1 1) = 1 then (some (1, false, true)) else (computusref23_Find.j1 k x0 x1)) else (computusref23_Find.j1 k x0 x1)) else (computusref23_Find.j1 k x0 x1))) else (if x8 = true then (if (rd x1 0) = 1 then (if (rd x1 1) = 1 then (some (1, false, true)) else (computusref23_Find.j1 k x0 x1)) else (computusref23_Find.j1 k x0 x1)) else (computusref23_Find.j1 k x0 x1))))) else (if (rd x1 0) = (rd x1 1) then (if (rd x1 0) ≥ 4 then (if (rd x1 0) ≤ 8 then (some (1, false, true)) else (if x8 = true then (if (rd x1 0) = 1 then (if (rd x1 1) = 1 then (some (1, false, true)) else (computusref23_Find.j1 k x0 x1)) else (computusref23_Find.j1 k x0 x1)) else (computusref23_Find.j1 k x0 x1))) else (if x8 = true then (if (rd x1 0) = 1 then (if (rd x1 1) = 1 then (some (1, false, true)) else (computusref23_Find.j1 k x0 x1)) else (computusref23_Find.j1 k x0 x1)) else (computusref23_Find.j1 k x0 x1))) else (if x8 = true then (if (rd x1 0) = 1 then (if (rd x1 1) = 1 then (some (1, false, true)) else (computusref23_Find.j1 k x0 x1)) else (computusref23_Find.j1 k x0 x1)) else (computusref23_Find.j1 k x0 x1))))) else (none)) else (none)) else (computusref23_Find.j1 k x0 x1)
def computusref23_Find.j1 : Nat → ByteArray → List Int → Option (Int × Bool × Bool)
 | 0, _, _ => none
 | k + 1, x0, x1 => (computusref23_Table.f).bind fun t228 => (computusref23_Find.l0 k x0 x1 t228 0)
def computusref23_Find.l0 : Nat → ByteArray → List Int → List (S27) → Int → Option (Int × Bool × Bool)
 | 0, _, _, _, _ => none
 | k + 1, x0, x1, x12, x13 => if x13 < (x12.length : Int) then (if 0 ≤ x13 then (if ((rd_T27 x12 x13).f0).toList = x0.toList then ((computusref23_same.f k ((rd_T27 x12 x13).f1) x1).bind fun t233 => (if t233 = true then (some ((rd_T27 x12 x13).f2, (x0.toList == ([103, 101, 110, 101, 114, 97, 116, 101, 95, 115, 101, 114, 105, 101, 115] : List UInt8)), true)) else (computusref23_Find.l0 k x0 x1 x12 (wrap64 (x13 + 1))))) else (computusref23_Find.l0 k x0 x1 x12 (wrap64 (x13 + 1)))) else (none)) else (some (0, false, false))
end
def computusref23_Find.f (k : Nat) (a0 : ByteArray) (l1 : List Int) : Option (Int × Bool × Bool) := (computusref23_compares.f a0).bind fun bt224 => (if bt224.1 = true then (computusref23_Find.j0 k a0 l1 bt224.2 ((l1.length : Int) == 2)) else (computusref23_Find.j0 k a0 l1 bt224.2 false))
theorem computusref23_Find.mono_l : ∀ k, (∀ y0 y1 y2 y3, LeO (computusref23_Find.j0 k y0 y1 y2 y3) (computusref23_Find.j0 (k + 1) y0 y1 y2 y3)) ∧ (∀ y0 y1, LeO (computusref23_Find.j1 k y0 y1) (computusref23_Find.j1 (k + 1) y0 y1)) ∧ (∀ y0 y1 y2 y3, LeO (computusref23_Find.l0 k y0 y1 y2 y3) (computusref23_Find.l0 (k + 1) y0 y1 y2 y3))
 | 0 => ⟨fun _ _ _ _ r h => by simp [computusref23_Find.j0] at h, fun _ _ r h => by simp [computusref23_Find.j1] at h, fun _ _ _ _ r h => by simp [computusref23_Find.l0] at h⟩
 | k + 1 => by
  obtain ⟨ih0, ih1, ih2⟩ := computusref23_Find.mono_l k
  refine ⟨?_, ?_, ?_⟩
  ·intro y0 y1 y2 y3
   unfold computusref23_Find.j0
   repeat' first
   | (with_reducible exact ih0 _ _ _ _)
   | (with_reducible exact ih1 _ _)
   | (with_reducible exact ih2 _ _ _ _)
   | (with_reducible exact computusref23_same.mono _ _ _)
   | (with_reducible exact LeO.refl _)
   | (with_reducible exact LeO.none _)
   | (with_reducible refine LeO.ite ?_ ?_)
   | (with_reducible refine LeO.bind ?_ (fun _ => ?_))
   | exact ih0 _ _ _ _
   | exact ih1 _ _
   | exact ih2 _ _ _ _
   | exact computusref23_same.mono _ _ _
   | exact LeO.none _
   | refine LeO.ite ?_ ?_
   | refine LeO.bind ?_ (fun _ => ?_)
  ·intro y0 y1
   unfold computusref23_Find.j1
   repeat' first
   | (with_reducible exact ih0 _ _ _ _)
   | (with_reducible exact ih1 _ _)
   | (with_reducible exact ih2 _ _ _ _)
   | (with_reducible exact computusref23_same.mono _ _ _)
   | (with_reducible exact LeO.refl _)
   | (with_reducible exact LeO.none _)
   | (with_reducible refine LeO.ite ?_ ?_)
   | (with_reducible refine LeO.bind ?_ (fun _ => ?_))
   | exact ih0 _ _ _ _
   | exact ih1 _ _
   | exact ih2 _ _ _ _
   | exact computusref23_same.mono _ _ _
   | exact LeO.none _
   | refine LeO.ite ?_ ?_
   | refine LeO.bind ?_ (fun _ => ?_)
  ·intro y0 y1 y2 y3
   unfold computusref23_Find.l0
   repeat' first
   | (with_reducible exact ih0 _ _ _ _)
   | (with_reducible exact ih1 _ _)
   | (with_reducible exact ih2 _ _ _ _)
   | (with_reducible exact computusref23_same.mono _ _ _)
   | (with_reducible exact LeO.refl _)
   | (with_reducible exact LeO.none _)
   | (with_reducible refine LeO.ite ?_ ?_)
   | (with_reducible refine LeO.bind ?_ (fun _ => ?_))
   | exact ih0 _ _ _ _
   | exact ih1 _ _
   | exact ih2 _ _ _ _
   | exact computusref23_same.mono _ _ _
   | exact LeO.none _
   | refine LeO.ite ?_ ?_
   | refine LeO.bind ?_ (fun _ => ?_)
theorem computusref23_Find.mono : ∀ a0 a1 k, LeO (computusref23_Find.f k a0 a1) (computusref23_Find.f (k + 1) a0 a1) := by
 intro a0 a1 k
 obtain ⟨ih0, ih1, ih2⟩ := computusref23_Find.mono_l k
 unfold computusref23_Find.f
 repeat' first
   | (with_reducible exact ih0 _ _ _ _)
   | (with_reducible exact ih1 _ _)
   | (with_reducible exact ih2 _ _ _ _)
   | (with_reducible exact computusref23_same.mono _ _ _)
   | (with_reducible exact LeO.refl _)
   | (with_reducible exact LeO.none _)
   | (with_reducible refine LeO.ite ?_ ?_)
   | (with_reducible refine LeO.bind ?_ (fun _ => ?_))
   | exact ih0 _ _ _ _
   | exact ih1 _ _
   | exact ih2 _ _ _ _
   | exact computusref23_same.mono _ _ _
   | exact LeO.none _
   | refine LeO.ite ?_ ?_
   | refine LeO.bind ?_ (fun _ => ?_)
set_option maxHeartbeats 8000000 in
set_option maxRecDepth 100000 in
theorem computusref23_Find.calls (k : Nat) (a0 : ByteArray) (A1 : Option Addr) (c1 : Nat) (l1 : List Int) (r1 : Int) (r2 : Bool) (r3 : Bool) (w : World) (hr1 : Kd.C (Kd.int .i64) w A1 l1.length l1) (hc1 : l1.length ≤ c1) (h : computusref23_Find.f k a0 l1 = some (r1, r2, r3)) :
  Calls Tryd.prog 11 #[.string a0, .slice A1 l1.length c1] w fun e w' => e = .returned (.tuple #[.int .i64 r1, .bool r2, .bool r3]) ∧ Below w.heap.size w w' := by
 have HR1 := Aside0.mk hr1
 have HC1 := Aside0.mk hc1
 clear hr1 hc1
 have HB := Aside0.mk (Below.refl w.heap.size w)
 have H : ((computusref23_compares.f a0).bind fun bt224 => (if bt224.1 = true then (computusref23_Find.j0 k a0 l1 bt224.2 ((l1.length : Int) == 2)) else (computusref23_Find.j0 k a0 l1 bt224.2 false))) = some (r1, r2, r3) := h
 clear h
 replace H := Option.bind_eq_some_iff.mp H
 obtain ⟨⟨t224, t225⟩, A30, H⟩ := H
 replace H : (if t224 = true then (computusref23_Find.j0 k a0 l1 t225 ((l1.length : Int) == 2)) else (computusref23_Find.j0 k a0 l1 t225 false)) = some (r1, r2, r3) := H
 have A3 := Aside0.mk A30
 clear A30
 have HC4 := Aside0.mk H
 clear H
 go_enter Tryd.func11, Tryd.ntmps11
 go_upto_region 2 with (first | ((with_reducible refine gate_callee (f := 26) rfl ?_); refine goesL_ (some 16) rfl rfl Tryd.func26 (by kernel_rfl) rfl #[.string a0] rfl (by (try simp only [List.map_toArray, List.map_cons, List.map_nil]); first | done | rfl | (simp only [List.length_drop, List.length_take]; rfl)) ?_; (with_reducible refine (computusref23_compares.calls a0 t224 t225 _ A3.out).mono ?_); rintro e w' ⟨rfl, ⟨nd, rfl⟩⟩; refine ⟨_, rfl, ?_⟩))
 (try simp only [Act.put, List.setIfInBounds_toArray, List.set_cons_zero, List.set_cons_succ])
 go_cut [24] (fun v24 wc => ∃ (kq : Nat) (x24_3 : Bool), v24 = .bool x24_3 ∧ Aside0 (computusref23_Find.j0 kq a0 l1 t225 x24_3 = some (r1, r2, r3)) ∧ Aside0 (kq ≤ k) ∧ Aside0 (Below w.heap.size w wc))
 case first =>
  have H := HC4.out
  clear HC4
  by_cases c5 : t224 = true
  ·subst c5
   have H1 : (computusref23_Find.j0 k a0 l1 t225 ((l1.length : Int) == 2)) = some (r1, r2, r3) := by rw [if_pos rfl] at H; exact H
   clear H
   have H := H1
   clear H1
   have H' := Aside0.mk H
   clear H
   go_wp2
   go_meet
   case rel => exact ⟨_, (((l1.length : Int) == 2)), (by first | rfl | (simp; done) | (simp [*]; done)), H', ⟨by first | omega | exact Nat.le_refl _⟩, ⟨by repeat (first | (with_reducible first | exact HB.out | apply below_alloc | apply pw_below_drewN | apply below_drew1) | exact HB.out)⟩⟩
  ·replace c5 := Bool.eq_false_iff.mpr c5
   subst c5
   have H1 : (computusref23_Find.j0 k a0 l1 t225 false) = some (r1, r2, r3) := by rw [if_neg (show ¬ (false = true) by decide)] at H; exact H
   clear H
   have H := H1
   clear H1
   have H' := Aside0.mk H
   clear H
   go_wp2
   go_meet
   case rel => exact ⟨_, (false), (by first | rfl | (simp; done) | (simp [*]; done)), H', ⟨by first | omega | exact Nat.le_refl _⟩, ⟨by repeat (first | (with_reducible first | exact HB.out | apply below_alloc | apply pw_below_drewN | apply below_drew1) | exact HB.out)⟩⟩
 case rest =>
  clear HC4
  try clear c1
  try clear c2
  try clear p2
  try clear c5
  obtain ⟨kq, x24_3, rfl, HA, HJ3, HB⟩ := hcut
  cases kq with
  | zero => exact absurd HA.out (by simp [computusref23_Find.j0])
  | succ kj3 =>
   have H := HA.out
   clear HA
   simp only [computusref23_Find.j0] at H
   have HC6 := Aside0.mk H
   clear H
   go_upto_if 24 with (fail)
   go_cut [] (fun wc => ∃ (kq : Nat), Aside0 (computusref23_Find.j1 kq a0 l1 = some (r1, r2, r3)) ∧ Aside0 (kq ≤ kj3) ∧ Aside0 (Below w.heap.size w wc))
   case first =>
    have H := HC6.out
    clear HC6
    by_cases c7 : x24_3 = true
    ·subst c7
     have H1 : (if 0 < (l1.length : Int) then (if 1 < (l1.length : Int) then (if (rd l1 0) = 2 then (if (rd l1 1) = 2 then (some (1, false, true)) else (if (rd l1 1) = 3 then (some (1, false, true)) else (if (rd l1 0) = (rd l1 1) then (if (rd l1 0) ≥ 4 then (if (rd l1 0) ≤ 8 then (some (1, false, true)) else (if t225 = true then (if (rd l1 0) = 1 then (if (rd l1 1) = 1 then (some (1, false, true)) else (computusref23_Find.j1 kj3 a0 l1)) else (computusref23_Find.j1 kj3 a0 l1)) else (computusref23_Find.j1 kj3 a0 l1))) else (if t225 = true then (if (rd l1 0) = 1 then (if (rd l1 1) = 1 then (some (1, false, true)) else (computusref23_Find.j1 kj3 a0 l1)) else (computusref23_Find.j1 kj3 a0 l1)) else (computusref23_Find.j1 kj3 a0 l1))) else (if t225 = true then (if (rd l1 0) = 1 then (if (rd l1 1) = 1 then (some (1, false, true)) else (computusref23_Find.j1 kj3 a0 l1)) else (computusref23_Find.j1 kj3 a0 l1)) else (computusref23_Find.j1 kj3 a0 l1))))) else (if (rd l1 0) = 3 then (if (rd l1 1) = 2 then (some (1, false, true)) else (if (rd l1 1) = 3 then (some (1, false, true)) else (if (rd l1 0) = (rd l1 1) then (if (rd l1 0) ≥ 4 then (if (rd l1 0) ≤ 8 then (some (1, false, true)) else (if t225 = true then (if (rd l1 0) = 1 then (if (rd l1 1) = 1 then (some (1, false, true)) else (computusref23_Find.j1 kj3 a0 l1)) else (computusref23_Find.j1 kj3 a0 l1)) else (computusref23_Find.j1 kj3 a0 l1))) else (if t225 = true then (if (rd l1 0) = 1 then (if (rd l1 1) = 1 then (some (1, false, true)) else (computusref23_Find.j1 kj3 a0 l1)) else (computusref23_Find.j1 kj3 a0 l1)) else (computusref23_Find.j1 kj3 a0 l1))) else (if t225 = true then (if (rd l1 0) = 1 then (if (rd l1 1) = 1 then (some (1, false, true)) else (computusref23_Find.j1 kj3 a0 l1)) else (computusref23_Find.j1 kj3 a0 l1)) else (computusref23_Find.j1 kj3 a0 l1))))) else (if (rd l1 0) = (rd l1 1) then (if (rd l1 0) ≥ 4 then (if (rd l1 0) ≤ 8 then (some (1, false, true)) else (if t225 = true then (if (rd l1 0) = 1 then (if (rd l1 1) = 1 then (some (1, false, true)) else (computusref23_Find.j1 kj3 a0 l1)) else (computusref23_Find.j1 kj3 a0 l1)) else (computusref23_Find.j1 kj3 a0 l1))) else (if t225 = true then (if (rd l1 0) = 1 then (if (rd l1 1) = 1 then (some (1, false, true)) else (computusref23_Find.j1 kj3 a0 l1)) else (computusref23_Find.j1 kj3 a0 l1)) else (computusref23_Find.j1 kj3 a0 l1))) else (if t225 = true then (if (rd l1 0) = 1 then (if (rd l1 1) = 1 then (some (1, false, true)) else (computusref23_Find.j1 kj3 a0 l1)) else (computusref23_Find.j1 kj3 a0 l1)) else (computusref23_Find.j1 kj3 a0 l1))))) else (none)) else (none)) = some (r1, r2, r3) := by rw [if_pos rfl] at H; exact H
     clear H
     have H := H1
     clear H1
     by_cases c8 : 0 < (l1.length : Int)
     ·rw [if_pos c8] at H
      have c8b0 : decide (0 < (l1.length : Int)) = true := decide_eq_true c8
      have c8b1 : decide (0 < l1.length) = true := decide_eq_true (by omega)
      clear c8
      (first | rw [c8b0] | (simp only [i64_w, i32_w]; rw [c8b0]) | skip)
      by_cases c9 : 1 < (l1.length : Int)
      ·rw [if_pos c9] at H
       have c9b0 : decide (1 < (l1.length : Int)) = true := decide_eq_true c9
       have c9b1 : decide (1 < l1.length) = true := decide_eq_true (by omega)
       clear c9
       by_cases c10 : (rd l1 0) = 2
       ·rw [if_pos c10] at H
        have c10b0 : ((rd l1 0) == 2) = true := beq_iff_eq.mpr c10
        have c10b1 : ((rd l1 0) != 2) = false := bne_eq_false_iff_eq.mpr c10
        clear c10
        by_cases c11 : (rd l1 1) = 2
        ·rw [if_pos c11] at H
         have c11b0 : ((rd l1 1) == 2) = true := beq_iff_eq.mpr c11
         have c11b1 : ((rd l1 1) != 2) = false := bne_eq_false_iff_eq.mpr c11
         clear c11
         simp only [Option.some.injEq, Prod.mk.injEq] at H
         obtain ⟨rfl, rfl, rfl⟩ := H
         have p226 : 0 ≤ (0 : Int) := (by omega)
         have q226 : 0 < (l1.length : Int) := of_decide_eq_true (by first | (with_reducible assumption) | assumption)
         obtain ⟨ad226, e226, hx226_0⟩ := Kd.at_int HR1.out 0 p226 q226
         cases e226
         have qi226 : (0 < l1.length) = True := eq_true (by omega)
         (try rw [show ((0 : Int)).toNat = 0 from rfl] at hx226_0)
         (try rw [Addr.add_zero'] at hx226_0)
         replace hx226_0 := (HB.out.cell (World.block_lt_of_cell? w _ hx226_0)).trans hx226_0
         replace p226 := eq_true p226
         replace q226 := eq_true q226
         have p227 : 0 ≤ (1 : Int) := (by omega)
         have q227 : 1 < (l1.length : Int) := of_decide_eq_true (by first | (with_reducible assumption) | assumption)
         obtain ⟨ad227, e227, hx227_0⟩ := Kd.at_int HR1.out 1 p227 q227
         obtain rfl : ad226 = ad227 := (by injection e227)
         (try simp only [show (1 : Int).toNat = 1 from rfl, Nat.reduceMul, Nat.reduceEqDiff, Go.Addr.add, ↓reduceIte] at hx227_0)
         have qi227 : (1 < l1.length) = True := eq_true (by omega)
         (try rw [show ((1 : Int)).toNat = 1 from rfl] at hx227_0)
         replace hx227_0 := (HB.out.cell (World.block_lt_of_cell? w _ hx227_0)).trans hx227_0
         replace p227 := eq_true p227
         replace q227 := eq_true q227
         go_wp2
         go_ret3
         exact ⟨by first | rfl | (simp [errW_none, errW_some] <;> rfl) | (simp [*, errW_none, errW_some] <;> rfl), by repeat (first | (with_reducible first | exact HB.out | apply below_alloc | apply pw_below_drewN | apply below_drew1) | exact HB.out)⟩
        ·rw [if_neg c11] at H
         have c11b0 : ((rd l1 1) == 2) = false := beq_eq_false_iff_ne.mpr c11
         have c11b1 : ((rd l1 1) != 2) = true := bne_iff_ne.mpr c11
         by_cases c12 : (rd l1 1) = 3
         ·rw [if_pos c12] at H
          have c12b0 : ((rd l1 1) == 3) = true := beq_iff_eq.mpr c12
          have c12b1 : ((rd l1 1) != 3) = false := bne_eq_false_iff_eq.mpr c12
          clear c12
          simp only [Option.some.injEq, Prod.mk.injEq] at H
          obtain ⟨rfl, rfl, rfl⟩ := H
          have p226 : 0 ≤ (0 : Int) := (by omega)
          have q226 : 0 < (l1.length : Int) := of_decide_eq_true (by first | (with_reducible assumption) | assumption)
          obtain ⟨ad226, e226, hx226_0⟩ := Kd.at_int HR1.out 0 p226 q226
          cases e226
          have qi226 : (0 < l1.length) = True := eq_true (by omega)
          (try rw [show ((0 : Int)).toNat = 0 from rfl] at hx226_0)
          (try rw [Addr.add_zero'] at hx226_0)
          replace hx226_0 := (HB.out.cell (World.block_lt_of_cell? w _ hx226_0)).trans hx226_0
          replace p226 := eq_true p226
          replace q226 := eq_true q226
          have p227 : 0 ≤ (1 : Int) := (by omega)
          have q227 : 1 < (l1.length : Int) := of_decide_eq_true (by first | (with_reducible assumption) | assumption)
          obtain ⟨ad227, e227, hx227_0⟩ := Kd.at_int HR1.out 1 p227 q227
          obtain rfl : ad226 = ad227 := (by injection e227)
          (try simp only [show (1 : Int).toNat = 1 from rfl, Nat.reduceMul, Nat.reduceEqDiff, Go.Addr.add, ↓reduceIte] at hx227_0)
          have qi227 : (1 < l1.length) = True := eq_true (by omega)
          (try rw [show ((1 : Int)).toNat = 1 from rfl] at hx227_0)
          replace hx227_0 := (HB.out.cell (World.block_lt_of_cell? w _ hx227_0)).trans hx227_0
          replace p227 := eq_true p227
          replace q227 := eq_true q227
          go_wp2
          go_ret3
          exact ⟨by first | rfl | (simp [errW_none, errW_some] <;> rfl) | (simp [*, errW_none, errW_some] <;> rfl), by repeat (first | (with_reducible first | exact HB.out | apply below_alloc | apply pw_below_drewN | apply below_drew1) | exact HB.out)⟩
         ·rw [if_neg c12] at H
          have c12b0 : ((rd l1 1) == 3) = false := beq_eq_false_iff_ne.mpr c12
          have c12b1 : ((rd l1 1) != 3) = true := bne_iff_ne.mpr c12
          by_cases c13 : (rd l1 0) = (rd l1 1)
          ·rw [if_pos c13] at H
           have c13b0 : ((rd l1 0) == (rd l1 1)) = true := beq_iff_eq.mpr c13
           have c13b1 : ((rd l1 0) != (rd l1 1)) = false := bne_eq_false_iff_eq.mpr c13
           clear c13
           by_cases c14 : (rd l1 0) ≥ 4
           ·rw [if_pos c14] at H
            have c14b0 : decide (4 ≤ (rd l1 0)) = true := decide_eq_true c14
            clear c14
            by_cases c15 : (rd l1 0) ≤ 8
            ·rw [if_pos c15] at H
             have c15b0 : decide ((rd l1 0) ≤ 8) = true := decide_eq_true c15
             clear c15
             simp only [Option.some.injEq, Prod.mk.injEq] at H
             obtain ⟨rfl, rfl, rfl⟩ := H
             have p226 : 0 ≤ (0 : Int) := (by omega)
             have q226 : 0 < (l1.length : Int) := of_decide_eq_true (by first | (with_reducible assumption) | assumption)
             obtain ⟨ad226, e226, hx226_0⟩ := Kd.at_int HR1.out 0 p226 q226
             cases e226
             have qi226 : (0 < l1.length) = True := eq_true (by omega)
             (try rw [show ((0 : Int)).toNat = 0 from rfl] at hx226_0)
             (try rw [Addr.add_zero'] at hx226_0)
             replace hx226_0 := (HB.out.cell (World.block_lt_of_cell? w _ hx226_0)).trans hx226_0
             replace p226 := eq_true p226
             replace q226 := eq_true q226
             have p227 : 0 ≤ (1 : Int) := (by omega)
             have q227 : 1 < (l1.length : Int) := of_decide_eq_true (by first | (with_reducible assumption) | assumption)
             obtain ⟨ad227, e227, hx227_0⟩ := Kd.at_int HR1.out 1 p227 q227
             obtain rfl : ad226 = ad227 := (by injection e227)
             (try simp only [show (1 : Int).toNat = 1 from rfl, Nat.reduceMul, Nat.reduceEqDiff, Go.Addr.add, ↓reduceIte] at hx227_0)
             have qi227 : (1 < l1.length) = True := eq_true (by omega)
             (try rw [show ((1 : Int)).toNat = 1 from rfl] at hx227_0)
             replace hx227_0 := (HB.out.cell (World.block_lt_of_cell? w _ hx227_0)).trans hx227_0
             replace p227 := eq_true p227
             replace q227 := eq_true q227
             go_wp2
             go_ret3
             exact ⟨by first | rfl | (simp [errW_none, errW_some] <;> rfl) | (simp [*, errW_none, errW_some] <;> rfl), by repeat (first | (with_reducible first | exact HB.out | apply below_alloc | apply pw_below_drewN | apply below_drew1) | exact HB.out)⟩
            ·rw [if_neg c15] at H
             have c15b0 : decide ((rd l1 0) ≤ 8) = false := decide_eq_false c15
             clear c15
             by_cases c16 : t225 = true
             ·subst c16
              have H1 : (if (rd l1 0) = 1 then (if (rd l1 1) = 1 then (some (1, false, true)) else (computusref23_Find.j1 kj3 a0 l1)) else (computusref23_Find.j1 kj3 a0 l1)) = some (r1, r2, r3) := by rw [if_pos rfl] at H; exact H
              clear H
              have H := H1
              clear H1
              by_cases c17 : (rd l1 0) = 1
              ·rw [if_pos c17] at H
               have c17b0 : ((rd l1 0) == 1) = true := beq_iff_eq.mpr c17
               have c17b1 : ((rd l1 0) != 1) = false := bne_eq_false_iff_eq.mpr c17
               clear c17
               by_cases c18 : (rd l1 1) = 1
               ·rw [if_pos c18] at H
                have c18b0 : ((rd l1 1) == 1) = true := beq_iff_eq.mpr c18
                have c18b1 : ((rd l1 1) != 1) = false := bne_eq_false_iff_eq.mpr c18
                clear c18
                simp only [Option.some.injEq, Prod.mk.injEq] at H
                obtain ⟨rfl, rfl, rfl⟩ := H
                have p226 : 0 ≤ (0 : Int) := (by omega)
                have q226 : 0 < (l1.length : Int) := of_decide_eq_true (by first | (with_reducible assumption) | assumption)
                obtain ⟨ad226, e226, hx226_0⟩ := Kd.at_int HR1.out 0 p226 q226
                cases e226
                have qi226 : (0 < l1.length) = True := eq_true (by omega)
                (try rw [show ((0 : Int)).toNat = 0 from rfl] at hx226_0)
                (try rw [Addr.add_zero'] at hx226_0)
                replace hx226_0 := (HB.out.cell (World.block_lt_of_cell? w _ hx226_0)).trans hx226_0
                replace p226 := eq_true p226
                replace q226 := eq_true q226
                have p227 : 0 ≤ (1 : Int) := (by omega)
                have q227 : 1 < (l1.length : Int) := of_decide_eq_true (by first | (with_reducible assumption) | assumption)
                obtain ⟨ad227, e227, hx227_0⟩ := Kd.at_int HR1.out 1 p227 q227
                obtain rfl : ad226 = ad227 := (by injection e227)
                (try simp only [show (1 : Int).toNat = 1 from rfl, Nat.reduceMul, Nat.reduceEqDiff, Go.Addr.add, ↓reduceIte] at hx227_0)
                have qi227 : (1 < l1.length) = True := eq_true (by omega)
                (try rw [show ((1 : Int)).toNat = 1 from rfl] at hx227_0)
                replace hx227_0 := (HB.out.cell (World.block_lt_of_cell? w _ hx227_0)).trans hx227_0
                replace p227 := eq_true p227
                replace q227 := eq_true q227
                go_wp2
                go_ret3
                exact ⟨by first | rfl | (simp [errW_none, errW_some] <;> rfl) | (simp [*, errW_none, errW_some] <;> rfl), by repeat (first | (with_reducible first | exact HB.out | apply below_alloc | apply pw_below_drewN | apply below_drew1) | exact HB.out)⟩
               ·rw [if_neg c18] at H
                have c18b0 : ((rd l1 1) == 1) = false := beq_eq_false_iff_ne.mpr c18
                have c18b1 : ((rd l1 1) != 1) = true := bne_iff_ne.mpr c18
                have H' := Aside0.mk H
                clear H
                have p226 : 0 ≤ (0 : Int) := (by omega)
                have q226 : 0 < (l1.length : Int) := of_decide_eq_true (by first | (with_reducible assumption) | assumption)
                obtain ⟨ad226, e226, hx226_0⟩ := Kd.at_int HR1.out 0 p226 q226
                cases e226
                have qi226 : (0 < l1.length) = True := eq_true (by omega)
                (try rw [show ((0 : Int)).toNat = 0 from rfl] at hx226_0)
                (try rw [Addr.add_zero'] at hx226_0)
                replace hx226_0 := (HB.out.cell (World.block_lt_of_cell? w _ hx226_0)).trans hx226_0
                replace p226 := eq_true p226
                replace q226 := eq_true q226
                have p227 : 0 ≤ (1 : Int) := (by omega)
                have q227 : 1 < (l1.length : Int) := of_decide_eq_true (by first | (with_reducible assumption) | assumption)
                obtain ⟨ad227, e227, hx227_0⟩ := Kd.at_int HR1.out 1 p227 q227
                obtain rfl : ad226 = ad227 := (by injection e227)
                (try simp only [show (1 : Int).toNat = 1 from rfl, Nat.reduceMul, Nat.reduceEqDiff, Go.Addr.add, ↓reduceIte] at hx227_0)
                have qi227 : (1 < l1.length) = True := eq_true (by omega)
                (try rw [show ((1 : Int)).toNat = 1 from rfl] at hx227_0)
                replace hx227_0 := (HB.out.cell (World.block_lt_of_cell? w _ hx227_0)).trans hx227_0
                replace p227 := eq_true p227
                replace q227 := eq_true q227
                go_wp2
                go_meet
                case rel => exact ⟨_, H', ⟨by have := HJ3.out; first | omega | exact Nat.le_refl _⟩, ⟨by repeat (first | (with_reducible first | exact HB.out | apply below_alloc | apply pw_below_drewN | apply below_drew1) | exact HB.out)⟩⟩
              ·rw [if_neg c17] at H
               have c17b0 : ((rd l1 0) == 1) = false := beq_eq_false_iff_ne.mpr c17
               have c17b1 : ((rd l1 0) != 1) = true := bne_iff_ne.mpr c17
               have H' := Aside0.mk H
               clear H
               have p226 : 0 ≤ (0 : Int) := (by omega)
               have q226 : 0 < (l1.length : Int) := of_decide_eq_true (by first | (with_reducible assumption) | assumption)
               obtain ⟨ad226, e226, hx226_0⟩ := Kd.at_int HR1.out 0 p226 q226
               cases e226
               have qi226 : (0 < l1.length) = True := eq_true (by omega)
               (try rw [show ((0 : Int)).toNat = 0 from rfl] at hx226_0)
               (try rw [Addr.add_zero'] at hx226_0)
               replace hx226_0 := (HB.out.cell (World.block_lt_of_cell? w _ hx226_0)).trans hx226_0
               replace p226 := eq_true p226
               replace q226 := eq_true q226
               have p227 : 0 ≤ (1 : Int) := (by omega)
               have q227 : 1 < (l1.length : Int) := of_decide_eq_true (by first | (with_reducible assumption) | assumption)
               obtain ⟨ad227, e227, hx227_0⟩ := Kd.at_int HR1.out 1 p227 q227
               obtain rfl : ad226 = ad227 := (by injection e227)
               (try simp only [show (1 : Int).toNat = 1 from rfl, Nat.reduceMul, Nat.reduceEqDiff, Go.Addr.add, ↓reduceIte] at hx227_0)
               have qi227 : (1 < l1.length) = True := eq_true (by omega)
               (try rw [show ((1 : Int)).toNat = 1 from rfl] at hx227_0)
               replace hx227_0 := (HB.out.cell (World.block_lt_of_cell? w _ hx227_0)).trans hx227_0
               replace p227 := eq_true p227
               replace q227 := eq_true q227
               go_wp2
               go_meet
               case rel => exact ⟨_, H', ⟨by have := HJ3.out; first | omega | exact Nat.le_refl _⟩, ⟨by repeat (first | (with_reducible first | exact HB.out | apply below_alloc | apply pw_below_drewN | apply below_drew1) | exact HB.out)⟩⟩
             ·replace c16 := Bool.eq_false_iff.mpr c16
              subst c16
              have H1 : (computusref23_Find.j1 kj3 a0 l1) = some (r1, r2, r3) := by rw [if_neg (show ¬ (false = true) by decide)] at H; exact H
              clear H
              have H := H1
              clear H1
              have H' := Aside0.mk H
              clear H
              have p226 : 0 ≤ (0 : Int) := (by omega)
              have q226 : 0 < (l1.length : Int) := of_decide_eq_true (by first | (with_reducible assumption) | assumption)
              obtain ⟨ad226, e226, hx226_0⟩ := Kd.at_int HR1.out 0 p226 q226
              cases e226
              have qi226 : (0 < l1.length) = True := eq_true (by omega)
              (try rw [show ((0 : Int)).toNat = 0 from rfl] at hx226_0)
              (try rw [Addr.add_zero'] at hx226_0)
              replace hx226_0 := (HB.out.cell (World.block_lt_of_cell? w _ hx226_0)).trans hx226_0
              replace p226 := eq_true p226
              replace q226 := eq_true q226
              have p227 : 0 ≤ (1 : Int) := (by omega)
              have q227 : 1 < (l1.length : Int) := of_decide_eq_true (by first | (with_reducible assumption) | assumption)
              obtain ⟨ad227, e227, hx227_0⟩ := Kd.at_int HR1.out 1 p227 q227
              obtain rfl : ad226 = ad227 := (by injection e227)
              (try simp only [show (1 : Int).toNat = 1 from rfl, Nat.reduceMul, Nat.reduceEqDiff, Go.Addr.add, ↓reduceIte] at hx227_0)
              have qi227 : (1 < l1.length) = True := eq_true (by omega)
              (try rw [show ((1 : Int)).toNat = 1 from rfl] at hx227_0)
              replace hx227_0 := (HB.out.cell (World.block_lt_of_cell? w _ hx227_0)).trans hx227_0
              replace p227 := eq_true p227
              replace q227 := eq_true q227
              go_wp2
              go_meet
              case rel => exact ⟨_, H', ⟨by have := HJ3.out; first | omega | exact Nat.le_refl _⟩, ⟨by repeat (first | (with_reducible first | exact HB.out | apply below_alloc | apply pw_below_drewN | apply below_drew1) | exact HB.out)⟩⟩
           ·rw [if_neg c14] at H
            have c14b0 : decide (4 ≤ (rd l1 0)) = false := decide_eq_false c14
            clear c14
            by_cases c19 : t225 = true
            ·subst c19
             have H1 : (if (rd l1 0) = 1 then (if (rd l1 1) = 1 then (some (1, false, true)) else (computusref23_Find.j1 kj3 a0 l1)) else (computusref23_Find.j1 kj3 a0 l1)) = some (r1, r2, r3) := by rw [if_pos rfl] at H; exact H
             clear H
             have H := H1
             clear H1
             by_cases c20 : (rd l1 0) = 1
             ·rw [if_pos c20] at H
              have c20b0 : ((rd l1 0) == 1) = true := beq_iff_eq.mpr c20
              have c20b1 : ((rd l1 0) != 1) = false := bne_eq_false_iff_eq.mpr c20
              clear c20
              by_cases c21 : (rd l1 1) = 1
              ·rw [if_pos c21] at H
               have c21b0 : ((rd l1 1) == 1) = true := beq_iff_eq.mpr c21
               have c21b1 : ((rd l1 1) != 1) = false := bne_eq_false_iff_eq.mpr c21
               clear c21
               simp only [Option.some.injEq, Prod.mk.injEq] at H
               obtain ⟨rfl, rfl, rfl⟩ := H
               have p226 : 0 ≤ (0 : Int) := (by omega)
               have q226 : 0 < (l1.length : Int) := of_decide_eq_true (by first | (with_reducible assumption) | assumption)
               obtain ⟨ad226, e226, hx226_0⟩ := Kd.at_int HR1.out 0 p226 q226
               cases e226
               have qi226 : (0 < l1.length) = True := eq_true (by omega)
               (try rw [show ((0 : Int)).toNat = 0 from rfl] at hx226_0)
               (try rw [Addr.add_zero'] at hx226_0)
               replace hx226_0 := (HB.out.cell (World.block_lt_of_cell? w _ hx226_0)).trans hx226_0
               replace p226 := eq_true p226
               replace q226 := eq_true q226
               have p227 : 0 ≤ (1 : Int) := (by omega)
               have q227 : 1 < (l1.length : Int) := of_decide_eq_true (by first | (with_reducible assumption) | assumption)
               obtain ⟨ad227, e227, hx227_0⟩ := Kd.at_int HR1.out 1 p227 q227
               obtain rfl : ad226 = ad227 := (by injection e227)
               (try simp only [show (1 : Int).toNat = 1 from rfl, Nat.reduceMul, Nat.reduceEqDiff, Go.Addr.add, ↓reduceIte] at hx227_0)
               have qi227 : (1 < l1.length) = True := eq_true (by omega)
               (try rw [show ((1 : Int)).toNat = 1 from rfl] at hx227_0)
               replace hx227_0 := (HB.out.cell (World.block_lt_of_cell? w _ hx227_0)).trans hx227_0
               replace p227 := eq_true p227
               replace q227 := eq_true q227
               go_wp2
               go_ret3
               exact ⟨by first | rfl | (simp [errW_none, errW_some] <;> rfl) | (simp [*, errW_none, errW_some] <;> rfl), by repeat (first | (with_reducible first | exact HB.out | apply below_alloc | apply pw_below_drewN | apply below_drew1) | exact HB.out)⟩
              ·rw [if_neg c21] at H
               have c21b0 : ((rd l1 1) == 1) = false := beq_eq_false_iff_ne.mpr c21
               have c21b1 : ((rd l1 1) != 1) = true := bne_iff_ne.mpr c21
               have H' := Aside0.mk H
               clear H
               have p226 : 0 ≤ (0 : Int) := (by omega)
               have q226 : 0 < (l1.length : Int) := of_decide_eq_true (by first | (with_reducible assumption) | assumption)
               obtain ⟨ad226, e226, hx226_0⟩ := Kd.at_int HR1.out 0 p226 q226
               cases e226
               have qi226 : (0 < l1.length) = True := eq_true (by omega)
               (try rw [show ((0 : Int)).toNat = 0 from rfl] at hx226_0)
               (try rw [Addr.add_zero'] at hx226_0)
               replace hx226_0 := (HB.out.cell (World.block_lt_of_cell? w _ hx226_0)).trans hx226_0
               replace p226 := eq_true p226
               replace q226 := eq_true q226
               have p227 : 0 ≤ (1 : Int) := (by omega)
               have q227 : 1 < (l1.length : Int) := of_decide_eq_true (by first | (with_reducible assumption) | assumption)
               obtain ⟨ad227, e227, hx227_0⟩ := Kd.at_int HR1.out 1 p227 q227
               obtain rfl : ad226 = ad227 := (by injection e227)
               (try simp only [show (1 : Int).toNat = 1 from rfl, Nat.reduceMul, Nat.reduceEqDiff, Go.Addr.add, ↓reduceIte] at hx227_0)
               have qi227 : (1 < l1.length) = True := eq_true (by omega)
               (try rw [show ((1 : Int)).toNat = 1 from rfl] at hx227_0)
               replace hx227_0 := (HB.out.cell (World.block_lt_of_cell? w _ hx227_0)).trans hx227_0
               replace p227 := eq_true p227
               replace q227 := eq_true q227
               go_wp2
               go_meet
               case rel => exact ⟨_, H', ⟨by have := HJ3.out; first | omega | exact Nat.le_refl _⟩, ⟨by repeat (first | (with_reducible first | exact HB.out | apply below_alloc | apply pw_below_drewN | apply below_drew1) | exact HB.out)⟩⟩
             ·rw [if_neg c20] at H
              have c20b0 : ((rd l1 0) == 1) = false := beq_eq_false_iff_ne.mpr c20
              have c20b1 : ((rd l1 0) != 1) = true := bne_iff_ne.mpr c20
              have H' := Aside0.mk H
              clear H
              have p226 : 0 ≤ (0 : Int) := (by omega)
              have q226 : 0 < (l1.length : Int) := of_decide_eq_true (by first | (with_reducible assumption) | assumption)
              obtain ⟨ad226, e226, hx226_0⟩ := Kd.at_int HR1.out 0 p226 q226
              cases e226
              have qi226 : (0 < l1.length) = True := eq_true (by omega)
              (try rw [show ((0 : Int)).toNat = 0 from rfl] at hx226_0)
              (try rw [Addr.add_zero'] at hx226_0)
              replace hx226_0 := (HB.out.cell (World.block_lt_of_cell? w _ hx226_0)).trans hx226_0
              replace p226 := eq_true p226
              replace q226 := eq_true q226
              have p227 : 0 ≤ (1 : Int) := (by omega)
              have q227 : 1 < (l1.length : Int) := of_decide_eq_true (by first | (with_reducible assumption) | assumption)
              obtain ⟨ad227, e227, hx227_0⟩ := Kd.at_int HR1.out 1 p227 q227
              obtain rfl : ad226 = ad227 := (by injection e227)
              (try simp only [show (1 : Int).toNat = 1 from rfl, Nat.reduceMul, Nat.reduceEqDiff, Go.Addr.add, ↓reduceIte] at hx227_0)
              have qi227 : (1 < l1.length) = True := eq_true (by omega)
              (try rw [show ((1 : Int)).toNat = 1 from rfl] at hx227_0)
              replace hx227_0 := (HB.out.cell (World.block_lt_of_cell? w _ hx227_0)).trans hx227_0
              replace p227 := eq_true p227
              replace q227 := eq_true q227
              go_wp2
              go_meet
              case rel => exact ⟨_, H', ⟨by have := HJ3.out; first | omega | exact Nat.le_refl _⟩, ⟨by repeat (first | (with_reducible first | exact HB.out | apply below_alloc | apply pw_below_drewN | apply below_drew1) | exact HB.out)⟩⟩
            ·replace c19 := Bool.eq_false_iff.mpr c19
             subst c19
             have H1 : (computusref23_Find.j1 kj3 a0 l1) = some (r1, r2, r3) := by rw [if_neg (show ¬ (false = true) by decide)] at H; exact H
             clear H
             have H := H1
             clear H1
             have H' := Aside0.mk H
             clear H
             have p226 : 0 ≤ (0 : Int) := (by omega)
             have q226 : 0 < (l1.length : Int) := of_decide_eq_true (by first | (with_reducible assumption) | assumption)
             obtain ⟨ad226, e226, hx226_0⟩ := Kd.at_int HR1.out 0 p226 q226
             cases e226
             have qi226 : (0 < l1.length) = True := eq_true (by omega)
             (try rw [show ((0 : Int)).toNat = 0 from rfl] at hx226_0)
             (try rw [Addr.add_zero'] at hx226_0)
             replace hx226_0 := (HB.out.cell (World.block_lt_of_cell? w _ hx226_0)).trans hx226_0
             replace p226 := eq_true p226
             replace q226 := eq_true q226
             have p227 : 0 ≤ (1 : Int) := (by omega)
             have q227 : 1 < (l1.length : Int) := of_decide_eq_true (by first | (with_reducible assumption) | assumption)
             obtain ⟨ad227, e227, hx227_0⟩ := Kd.at_int HR1.out 1 p227 q227
             obtain rfl : ad226 = ad227 := (by injection e227)
             (try simp only [show (1 : Int).toNat = 1 from rfl, Nat.reduceMul, Nat.reduceEqDiff, Go.Addr.add, ↓reduceIte] at hx227_0)
             have qi227 : (1 < l1.length) = True := eq_true (by omega)
             (try rw [show ((1 : Int)).toNat = 1 from rfl] at hx227_0)
             replace hx227_0 := (HB.out.cell (World.block_lt_of_cell? w _ hx227_0)).trans hx227_0
             replace p227 := eq_true p227
             replace q227 := eq_true q227
             go_wp2
             go_meet
             case rel => exact ⟨_, H', ⟨by have := HJ3.out; first | omega | exact Nat.le_refl _⟩, ⟨by repeat (first | (with_reducible first | exact HB.out | apply below_alloc | apply pw_below_drewN | apply below_drew1) | exact HB.out)⟩⟩
          ·rw [if_neg c13] at H
           have c13b0 : ((rd l1 0) == (rd l1 1)) = false := beq_eq_false_iff_ne.mpr c13
           have c13b1 : ((rd l1 0) != (rd l1 1)) = true := bne_iff_ne.mpr c13
           by_cases c22 : t225 = true
           ·subst c22
            have H1 : (if (rd l1 0) = 1 then (if (rd l1 1) = 1 then (some (1, false, true)) else (computusref23_Find.j1 kj3 a0 l1)) else (computusref23_Find.j1 kj3 a0 l1)) = some (r1, r2, r3) := by rw [if_pos rfl] at H; exact H
            clear H
            have H := H1
            clear H1
            by_cases c23 : (rd l1 0) = 1
            ·rw [if_pos c23] at H
             have c23b0 : ((rd l1 0) == 1) = true := beq_iff_eq.mpr c23
             have c23b1 : ((rd l1 0) != 1) = false := bne_eq_false_iff_eq.mpr c23
             clear c23
             by_cases c24 : (rd l1 1) = 1
             ·rw [if_pos c24] at H
              have c24b0 : ((rd l1 1) == 1) = true := beq_iff_eq.mpr c24
              have c24b1 : ((rd l1 1) != 1) = false := bne_eq_false_iff_eq.mpr c24
              clear c24
              simp only [Option.some.injEq, Prod.mk.injEq] at H
              obtain ⟨rfl, rfl, rfl⟩ := H
              have p226 : 0 ≤ (0 : Int) := (by omega)
              have q226 : 0 < (l1.length : Int) := of_decide_eq_true (by first | (with_reducible assumption) | assumption)
              obtain ⟨ad226, e226, hx226_0⟩ := Kd.at_int HR1.out 0 p226 q226
              cases e226
              have qi226 : (0 < l1.length) = True := eq_true (by omega)
              (try rw [show ((0 : Int)).toNat = 0 from rfl] at hx226_0)
              (try rw [Addr.add_zero'] at hx226_0)
              replace hx226_0 := (HB.out.cell (World.block_lt_of_cell? w _ hx226_0)).trans hx226_0
              replace p226 := eq_true p226
              replace q226 := eq_true q226
              have p227 : 0 ≤ (1 : Int) := (by omega)
              have q227 : 1 < (l1.length : Int) := of_decide_eq_true (by first | (with_reducible assumption) | assumption)
              obtain ⟨ad227, e227, hx227_0⟩ := Kd.at_int HR1.out 1 p227 q227
              obtain rfl : ad226 = ad227 := (by injection e227)
              (try simp only [show (1 : Int).toNat = 1 from rfl, Nat.reduceMul, Nat.reduceEqDiff, Go.Addr.add, ↓reduceIte] at hx227_0)
              have qi227 : (1 < l1.length) = True := eq_true (by omega)
              (try rw [show ((1 : Int)).toNat = 1 from rfl] at hx227_0)
              replace hx227_0 := (HB.out.cell (World.block_lt_of_cell? w _ hx227_0)).trans hx227_0
              replace p227 := eq_true p227
              replace q227 := eq_true q227
              go_wp2
              go_ret3
              exact ⟨by first | rfl | (simp [errW_none, errW_some] <;> rfl) | (simp [*, errW_none, errW_some] <;> rfl), by repeat (first | (with_reducible first | exact HB.out | apply below_alloc | apply pw_below_drewN | apply below_drew1) | exact HB.out)⟩
             ·rw [if_neg c24] at H
              have c24b0 : ((rd l1 1) == 1) = false := beq_eq_false_iff_ne.mpr c24
              have c24b1 : ((rd l1 1) != 1) = true := bne_iff_ne.mpr c24
              have H' := Aside0.mk H
              clear H
              have p226 : 0 ≤ (0 : Int) := (by omega)
              have q226 : 0 < (l1.length : Int) := of_decide_eq_true (by first | (with_reducible assumption) | assumption)
              obtain ⟨ad226, e226, hx226_0⟩ := Kd.at_int HR1.out 0 p226 q226
              cases e226
              have qi226 : (0 < l1.length) = True := eq_true (by omega)
              (try rw [show ((0 : Int)).toNat = 0 from rfl] at hx226_0)
              (try rw [Addr.add_zero'] at hx226_0)
              replace hx226_0 := (HB.out.cell (World.block_lt_of_cell? w _ hx226_0)).trans hx226_0
              replace p226 := eq_true p226
              replace q226 := eq_true q226
              have p227 : 0 ≤ (1 : Int) := (by omega)
              have q227 : 1 < (l1.length : Int) := of_decide_eq_true (by first | (with_reducible assumption) | assumption)
              obtain ⟨ad227, e227, hx227_0⟩ := Kd.at_int HR1.out 1 p227 q227
              obtain rfl : ad226 = ad227 := (by injection e227)
              (try simp only [show (1 : Int).toNat = 1 from rfl, Nat.reduceMul, Nat.reduceEqDiff, Go.Addr.add, ↓reduceIte] at hx227_0)
              have qi227 : (1 < l1.length) = True := eq_true (by omega)
              (try rw [show ((1 : Int)).toNat = 1 from rfl] at hx227_0)
              replace hx227_0 := (HB.out.cell (World.block_lt_of_cell? w _ hx227_0)).trans hx227_0
              replace p227 := eq_true p227
              replace q227 := eq_true q227
              go_wp2
              go_meet
              case rel => exact ⟨_, H', ⟨by have := HJ3.out; first | omega | exact Nat.le_refl _⟩, ⟨by repeat (first | (with_reducible first | exact HB.out | apply below_alloc | apply pw_below_drewN | apply below_drew1) | exact HB.out)⟩⟩
            ·rw [if_neg c23] at H
             have c23b0 : ((rd l1 0) == 1) = false := beq_eq_false_iff_ne.mpr c23
             have c23b1 : ((rd l1 0) != 1) = true := bne_iff_ne.mpr c23
             have H' := Aside0.mk H
             clear H
             have p226 : 0 ≤ (0 : Int) := (by omega)
             have q226 : 0 < (l1.length : Int) := of_decide_eq_true (by first | (with_reducible assumption) | assumption)
             obtain ⟨ad226, e226, hx226_0⟩ := Kd.at_int HR1.out 0 p226 q226
             cases e226
             have qi226 : (0 < l1.length) = True := eq_true (by omega)
             (try rw [show ((0 : Int)).toNat = 0 from rfl] at hx226_0)
             (try rw [Addr.add_zero'] at hx226_0)
             replace hx226_0 := (HB.out.cell (World.block_lt_of_cell? w _ hx226_0)).trans hx226_0
             replace p226 := eq_true p226
             replace q226 := eq_true q226
             have p227 : 0 ≤ (1 : Int) := (by omega)
             have q227 : 1 < (l1.length : Int) := of_decide_eq_true (by first | (with_reducible assumption) | assumption)
             obtain ⟨ad227, e227, hx227_0⟩ := Kd.at_int HR1.out 1 p227 q227
             obtain rfl : ad226 = ad227 := (by injection e227)
             (try simp only [show (1 : Int).toNat = 1 from rfl, Nat.reduceMul, Nat.reduceEqDiff, Go.Addr.add, ↓reduceIte] at hx227_0)
             have qi227 : (1 < l1.length) = True := eq_true (by omega)
             (try rw [show ((1 : Int)).toNat = 1 from rfl] at hx227_0)
             replace hx227_0 := (HB.out.cell (World.block_lt_of_cell? w _ hx227_0)).trans hx227_0
             replace p227 := eq_true p227
             replace q227 := eq_true q227
             go_wp2
             go_meet
             case rel => exact ⟨_, H', ⟨by have := HJ3.out; first | omega | exact Nat.le_refl _⟩, ⟨by repeat (first | (with_reducible first | exact HB.out | apply below_alloc | apply pw_below_drewN | apply below_drew1) | exact HB.out)⟩⟩
           ·replace c22 := Bool.eq_false_iff.mpr c22
            subst c22
            have H1 : (computusref23_Find.j1 kj3 a0 l1) = some (r1, r2, r3) := by rw [if_neg (show ¬ (false = true) by decide)] at H; exact H
            clear H
            have H := H1
            clear H1
            have H' := Aside0.mk H
            clear H
            have p226 : 0 ≤ (0 : Int) := (by omega)
            have q226 : 0 < (l1.length : Int) := of_decide_eq_true (by first | (with_reducible assumption) | assumption)
            obtain ⟨ad226, e226, hx226_0⟩ := Kd.at_int HR1.out 0 p226 q226
            cases e226
            have qi226 : (0 < l1.length) = True := eq_true (by omega)
            (try rw [show ((0 : Int)).toNat = 0 from rfl] at hx226_0)
            (try rw [Addr.add_zero'] at hx226_0)
            replace hx226_0 := (HB.out.cell (World.block_lt_of_cell? w _ hx226_0)).trans hx226_0
            replace p226 := eq_true p226
            replace q226 := eq_true q226
            have p227 : 0 ≤ (1 : Int) := (by omega)
            have q227 : 1 < (l1.length : Int) := of_decide_eq_true (by first | (with_reducible assumption) | assumption)
            obtain ⟨ad227, e227, hx227_0⟩ := Kd.at_int HR1.out 1 p227 q227
            obtain rfl : ad226 = ad227 := (by injection e227)
            (try simp only [show (1 : Int).toNat = 1 from rfl, Nat.reduceMul, Nat.reduceEqDiff, Go.Addr.add, ↓reduceIte] at hx227_0)
            have qi227 : (1 < l1.length) = True := eq_true (by omega)
            (try rw [show ((1 : Int)).toNat = 1 from rfl] at hx227_0)
            replace hx227_0 := (HB.out.cell (World.block_lt_of_cell? w _ hx227_0)).trans hx227_0
            replace p227 := eq_true p227
            replace q227 := eq_true q227
            go_wp2
            go_meet
            case rel => exact ⟨_, H', ⟨by have := HJ3.out; first | omega | exact Nat.le_refl _⟩, ⟨by repeat (first | (with_reducible first | exact HB.out | apply below_alloc | apply pw_below_drewN | apply below_drew1) | exact HB.out)⟩⟩
       ·rw [if_neg c10] at H
        have c10b0 : ((rd l1 0) == 2) = false := beq_eq_false_iff_ne.mpr c10
        have c10b1 : ((rd l1 0) != 2) = true := bne_iff_ne.mpr c10
        by_cases c25 : (rd l1 0) = 3
        ·rw [if_pos c25] at H
         have c25b0 : ((rd l1 0) == 3) = true := beq_iff_eq.mpr c25
         have c25b1 : ((rd l1 0) != 3) = false := bne_eq_false_iff_eq.mpr c25
         clear c25
         by_cases c26 : (rd l1 1) = 2
         ·rw [if_pos c26] at H
          have c26b0 : ((rd l1 1) == 2) = true := beq_iff_eq.mpr c26
          have c26b1 : ((rd l1 1) != 2) = false := bne_eq_false_iff_eq.mpr c26
          clear c26
          simp only [Option.some.injEq, Prod.mk.injEq] at H
          obtain ⟨rfl, rfl, rfl⟩ := H
          have p226 : 0 ≤ (0 : Int) := (by omega)
          have q226 : 0 < (l1.length : Int) := of_decide_eq_true (by first | (with_reducible assumption) | assumption)
          obtain ⟨ad226, e226, hx226_0⟩ := Kd.at_int HR1.out 0 p226 q226
          cases e226
          have qi226 : (0 < l1.length) = True := eq_true (by omega)
          (try rw [show ((0 : Int)).toNat = 0 from rfl] at hx226_0)
          (try rw [Addr.add_zero'] at hx226_0)
          replace hx226_0 := (HB.out.cell (World.block_lt_of_cell? w _ hx226_0)).trans hx226_0
          replace p226 := eq_true p226
          replace q226 := eq_true q226
          have p227 : 0 ≤ (1 : Int) := (by omega)
          have q227 : 1 < (l1.length : Int) := of_decide_eq_true (by first | (with_reducible assumption) | assumption)
          obtain ⟨ad227, e227, hx227_0⟩ := Kd.at_int HR1.out 1 p227 q227
          obtain rfl : ad226 = ad227 := (by injection e227)
          (try simp only [show (1 : Int).toNat = 1 from rfl, Nat.reduceMul, Nat.reduceEqDiff, Go.Addr.add, ↓reduceIte] at hx227_0)
          have qi227 : (1 < l1.length) = True := eq_true (by omega)
          (try rw [show ((1 : Int)).toNat = 1 from rfl] at hx227_0)
          replace hx227_0 := (HB.out.cell (World.block_lt_of_cell? w _ hx227_0)).trans hx227_0
          replace p227 := eq_true p227
          replace q227 := eq_true q227
          go_wp2
          go_ret3
          exact ⟨by first | rfl | (simp [errW_none, errW_some] <;> rfl) | (simp [*, errW_none, errW_some] <;> rfl), by repeat (first | (with_reducible first | exact HB.out | apply below_alloc | apply pw_below_drewN | apply below_drew1) | exact HB.out)⟩
         ·rw [if_neg c26] at H
          have c26b0 : ((rd l1 1) == 2) = false := beq_eq_false_iff_ne.mpr c26
          have c26b1 : ((rd l1 1) != 2) = true := bne_iff_ne.mpr c26
          by_cases c27 : (rd l1 1) = 3
          ·rw [if_pos c27] at H
           have c27b0 : ((rd l1 1) == 3) = true := beq_iff_eq.mpr c27
           have c27b1 : ((rd l1 1) != 3) = false := bne_eq_false_iff_eq.mpr c27
           clear c27
           simp only [Option.some.injEq, Prod.mk.injEq] at H
           obtain ⟨rfl, rfl, rfl⟩ := H
           have p226 : 0 ≤ (0 : Int) := (by omega)
           have q226 : 0 < (l1.length : Int) := of_decide_eq_true (by first | (with_reducible assumption) | assumption)
           obtain ⟨ad226, e226, hx226_0⟩ := Kd.at_int HR1.out 0 p226 q226
           cases e226
           have qi226 : (0 < l1.length) = True := eq_true (by omega)
           (try rw [show ((0 : Int)).toNat = 0 from rfl] at hx226_0)
           (try rw [Addr.add_zero'] at hx226_0)
           replace hx226_0 := (HB.out.cell (World.block_lt_of_cell? w _ hx226_0)).trans hx226_0
           replace p226 := eq_true p226
           replace q226 := eq_true q226
           have p227 : 0 ≤ (1 : Int) := (by omega)
           have q227 : 1 < (l1.length : Int) := of_decide_eq_true (by first | (with_reducible assumption) | assumption)
           obtain ⟨ad227, e227, hx227_0⟩ := Kd.at_int HR1.out 1 p227 q227
           obtain rfl : ad226 = ad227 := (by injection e227)
           (try simp only [show (1 : Int).toNat = 1 from rfl, Nat.reduceMul, Nat.reduceEqDiff, Go.Addr.add, ↓reduceIte] at hx227_0)
           have qi227 : (1 < l1.length) = True := eq_true (by omega)
           (try rw [show ((1 : Int)).toNat = 1 from rfl] at hx227_0)
           replace hx227_0 := (HB.out.cell (World.block_lt_of_cell? w _ hx227_0)).trans hx227_0
           replace p227 := eq_true p227
           replace q227 := eq_true q227
           go_wp2
           go_ret3
           exact ⟨by first | rfl | (simp [errW_none, errW_some] <;> rfl) | (simp [*, errW_none, errW_some] <;> rfl), by repeat (first | (with_reducible first | exact HB.out | apply below_alloc | apply pw_below_drewN | apply below_drew1) | exact HB.out)⟩
          ·rw [if_neg c27] at H
           have c27b0 : ((rd l1 1) == 3) = false := beq_eq_false_iff_ne.mpr c27
           have c27b1 : ((rd l1 1) != 3) = true := bne_iff_ne.mpr c27
           by_cases c28 : (rd l1 0) = (rd l1 1)
           ·rw [if_pos c28] at H
            have c28b0 : ((rd l1 0) == (rd l1 1)) = true := beq_iff_eq.mpr c28
            have c28b1 : ((rd l1 0) != (rd l1 1)) = false := bne_eq_false_iff_eq.mpr c28
            clear c28
            by_cases c29 : (rd l1 0) ≥ 4
            ·rw [if_pos c29] at H
             have c29b0 : decide (4 ≤ (rd l1 0)) = true := decide_eq_true c29
             clear c29
             by_cases c30 : (rd l1 0) ≤ 8
             ·rw [if_pos c30] at H
              have c30b0 : decide ((rd l1 0) ≤ 8) = true := decide_eq_true c30
              clear c30
              simp only [Option.some.injEq, Prod.mk.injEq] at H
              obtain ⟨rfl, rfl, rfl⟩ := H
              have p226 : 0 ≤ (0 : Int) := (by omega)
              have q226 : 0 < (l1.length : Int) := of_decide_eq_true (by first | (with_reducible assumption) | assumption)
              obtain ⟨ad226, e226, hx226_0⟩ := Kd.at_int HR1.out 0 p226 q226
              cases e226
              have qi226 : (0 < l1.length) = True := eq_true (by omega)
              (try rw [show ((0 : Int)).toNat = 0 from rfl] at hx226_0)
              (try rw [Addr.add_zero'] at hx226_0)
              replace hx226_0 := (HB.out.cell (World.block_lt_of_cell? w _ hx226_0)).trans hx226_0
              replace p226 := eq_true p226
              replace q226 := eq_true q226
              have p227 : 0 ≤ (1 : Int) := (by omega)
              have q227 : 1 < (l1.length : Int) := of_decide_eq_true (by first | (with_reducible assumption) | assumption)
              obtain ⟨ad227, e227, hx227_0⟩ := Kd.at_int HR1.out 1 p227 q227
              obtain rfl : ad226 = ad227 := (by injection e227)
              (try simp only [show (1 : Int).toNat = 1 from rfl, Nat.reduceMul, Nat.reduceEqDiff, Go.Addr.add, ↓reduceIte] at hx227_0)
              have qi227 : (1 < l1.length) = True := eq_true (by omega)
              (try rw [show ((1 : Int)).toNat = 1 from rfl] at hx227_0)
              replace hx227_0 := (HB.out.cell (World.block_lt_of_cell? w _ hx227_0)).trans hx227_0
              replace p227 := eq_true p227
              replace q227 := eq_true q227
              go_wp2
              go_ret3
              exact ⟨by first | rfl | (simp [errW_none, errW_some] <;> rfl) | (simp [*, errW_none, errW_some] <;> rfl), by repeat (first | (with_reducible first | exact HB.out | apply below_alloc | apply pw_below_drewN | apply below_drew1) | exact HB.out)⟩
             ·rw [if_neg c30] at H
              have c30b0 : decide ((rd l1 0) ≤ 8) = false := decide_eq_false c30
              clear c30
              by_cases c31 : t225 = true
              ·subst c31
               have H1 : (if (rd l1 0) = 1 then (if (rd l1 1) = 1 then (some (1, false, true)) else (computusref23_Find.j1 kj3 a0 l1)) else (computusref23_Find.j1 kj3 a0 l1)) = some (r1, r2, r3) := by rw [if_pos rfl] at H; exact H
               clear H
               have H := H1
               clear H1
               by_cases c32 : (rd l1 0) = 1
               ·rw [if_pos c32] at H
                have c32b0 : ((rd l1 0) == 1) = true := beq_iff_eq.mpr c32
                have c32b1 : ((rd l1 0) != 1) = false := bne_eq_false_iff_eq.mpr c32
                clear c32
                by_cases c33 : (rd l1 1) = 1
                ·rw [if_pos c33] at H
                 have c33b0 : ((rd l1 1) == 1) = true := beq_iff_eq.mpr c33
                 have c33b1 : ((rd l1 1) != 1) = false := bne_eq_false_iff_eq.mpr c33
                 clear c33
                 simp only [Option.some.injEq, Prod.mk.injEq] at H
                 obtain ⟨rfl, rfl, rfl⟩ := H
                 have p226 : 0 ≤ (0 : Int) := (by omega)
                 have q226 : 0 < (l1.length : Int) := of_decide_eq_true (by first | (with_reducible assumption) | assumption)
                 obtain ⟨ad226, e226, hx226_0⟩ := Kd.at_int HR1.out 0 p226 q226
                 cases e226
                 have qi226 : (0 < l1.length) = True := eq_true (by omega)
                 (try rw [show ((0 : Int)).toNat = 0 from rfl] at hx226_0)
                 (try rw [Addr.add_zero'] at hx226_0)
                 replace hx226_0 := (HB.out.cell (World.block_lt_of_cell? w _ hx226_0)).trans hx226_0
                 replace p226 := eq_true p226
                 replace q226 := eq_true q226
                 have p227 : 0 ≤ (1 : Int) := (by omega)
                 have q227 : 1 < (l1.length : Int) := of_decide_eq_true (by first | (with_reducible assumption) | assumption)
                 obtain ⟨ad227, e227, hx227_0⟩ := Kd.at_int HR1.out 1 p227 q227
                 obtain rfl : ad226 = ad227 := (by injection e227)
                 (try simp only [show (1 : Int).toNat = 1 from rfl, Nat.reduceMul, Nat.reduceEqDiff, Go.Addr.add, ↓reduceIte] at hx227_0)
                 have qi227 : (1 < l1.length) = True := eq_true (by omega)
                 (try rw [show ((1 : Int)).toNat = 1 from rfl] at hx227_0)
                 replace hx227_0 := (HB.out.cell (World.block_lt_of_cell? w _ hx227_0)).trans hx227_0
                 replace p227 := eq_true p227
                 replace q227 := eq_true q227
                 go_wp2
                 go_ret3
                 exact ⟨by first | rfl | (simp [errW_none, errW_some] <;> rfl) | (simp [*, errW_none, errW_some] <;> rfl), by repeat (first | (with_reducible first | exact HB.out | apply below_alloc | apply pw_below_drewN | apply below_drew1) | exact HB.out)⟩
                ·rw [if_neg c33] at H
                 have c33b0 : ((rd l1 1) == 1) = false := beq_eq_false_iff_ne.mpr c33
                 have c33b1 : ((rd l1 1) != 1) = true := bne_iff_ne.mpr c33
                 have H' := Aside0.mk H
                 clear H
                 have p226 : 0 ≤ (0 : Int) := (by omega)
                 have q226 : 0 < (l1.length : Int) := of_decide_eq_true (by first | (with_reducible assumption) | assumption)
                 obtain ⟨ad226, e226, hx226_0⟩ := Kd.at_int HR1.out 0 p226 q226
                 cases e226
                 have qi226 : (0 < l1.length) = True := eq_true (by omega)
                 (try rw [show ((0 : Int)).toNat = 0 from rfl] at hx226_0)
                 (try rw [Addr.add_zero'] at hx226_0)
                 replace hx226_0 := (HB.out.cell (World.block_lt_of_cell? w _ hx226_0)).trans hx226_0
                 replace p226 := eq_true p226
                 replace q226 := eq_true q226
                 have p227 : 0 ≤ (1 : Int) := (by omega)
                 have q227 : 1 < (l1.length : Int) := of_decide_eq_true (by first | (with_reducible assumption) | assumption)
                 obtain ⟨ad227, e227, hx227_0⟩ := Kd.at_int HR1.out 1 p227 q227
                 obtain rfl : ad226 = ad227 := (by injection e227)
                 (try simp only [show (1 : Int).toNat = 1 from rfl, Nat.reduceMul, Nat.reduceEqDiff, Go.Addr.add, ↓reduceIte] at hx227_0)
                 have qi227 : (1 < l1.length) = True := eq_true (by omega)
                 (try rw [show ((1 : Int)).toNat = 1 from rfl] at hx227_0)
                 replace hx227_0 := (HB.out.cell (World.block_lt_of_cell? w _ hx227_0)).trans hx227_0
                 replace p227 := eq_true p227
                 replace q227 := eq_true q227
                 go_wp2
                 go_meet
                 case rel => exact ⟨_, H', ⟨by have := HJ3.out; first | omega | exact Nat.le_refl _⟩, ⟨by repeat (first | (with_reducible first | exact HB.out | apply below_alloc | apply pw_below_drewN | apply below_drew1) | exact HB.out)⟩⟩
               ·rw [if_neg c32] at H
                have c32b0 : ((rd l1 0) == 1) = false := beq_eq_false_iff_ne.mpr c32
                have c32b1 : ((rd l1 0) != 1) = true := bne_iff_ne.mpr c32
                have H' := Aside0.mk H
                clear H
                have p226 : 0 ≤ (0 : Int) := (by omega)
                have q226 : 0 < (l1.length : Int) := of_decide_eq_true (by first | (with_reducible assumption) | assumption)
                obtain ⟨ad226, e226, hx226_0⟩ := Kd.at_int HR1.out 0 p226 q226
                cases e226
                have qi226 : (0 < l1.length) = True := eq_true (by omega)
                (try rw [show ((0 : Int)).toNat = 0 from rfl] at hx226_0)
                (try rw [Addr.add_zero'] at hx226_0)
                replace hx226_0 := (HB.out.cell (World.block_lt_of_cell? w _ hx226_0)).trans hx226_0
                replace p226 := eq_true p226
                replace q226 := eq_true q226
                have p227 : 0 ≤ (1 : Int) := (by omega)
                have q227 : 1 < (l1.length : Int) := of_decide_eq_true (by first | (with_reducible assumption) | assumption)
                obtain ⟨ad227, e227, hx227_0⟩ := Kd.at_int HR1.out 1 p227 q227
                obtain rfl : ad226 = ad227 := (by injection e227)
                (try simp only [show (1 : Int).toNat = 1 from rfl, Nat.reduceMul, Nat.reduceEqDiff, Go.Addr.add, ↓reduceIte] at hx227_0)
                have qi227 : (1 < l1.length) = True := eq_true (by omega)
                (try rw [show ((1 : Int)).toNat = 1 from rfl] at hx227_0)
                replace hx227_0 := (HB.out.cell (World.block_lt_of_cell? w _ hx227_0)).trans hx227_0
                replace p227 := eq_true p227
                replace q227 := eq_true q227
                go_wp2
                go_meet
                case rel => exact ⟨_, H', ⟨by have := HJ3.out; first | omega | exact Nat.le_refl _⟩, ⟨by repeat (first | (with_reducible first | exact HB.out | apply below_alloc | apply pw_below_drewN | apply below_drew1) | exact HB.out)⟩⟩
              ·replace c31 := Bool.eq_false_iff.mpr c31
               subst c31
               have H1 : (computusref23_Find.j1 kj3 a0 l1) = some (r1, r2, r3) := by rw [if_neg (show ¬ (false = true) by decide)] at H; exact H
               clear H
               have H := H1
               clear H1
               have H' := Aside0.mk H
               clear H
               have p226 : 0 ≤ (0 : Int) := (by omega)
               have q226 : 0 < (l1.length : Int) := of_decide_eq_true (by first | (with_reducible assumption) | assumption)
               obtain ⟨ad226, e226, hx226_0⟩ := Kd.at_int HR1.out 0 p226 q226
               cases e226
               have qi226 : (0 < l1.length) = True := eq_true (by omega)
               (try rw [show ((0 : Int)).toNat = 0 from rfl] at hx226_0)
               (try rw [Addr.add_zero'] at hx226_0)
               replace hx226_0 := (HB.out.cell (World.block_lt_of_cell? w _ hx226_0)).trans hx226_0
               replace p226 := eq_true p226
               replace q226 := eq_true q226
               have p227 : 0 ≤ (1 : Int) := (by omega)
               have q227 : 1 < (l1.length : Int) := of_decide_eq_true (by first | (with_reducible assumption) | assumption)
               obtain ⟨ad227, e227, hx227_0⟩ := Kd.at_int HR1.out 1 p227 q227
               obtain rfl : ad226 = ad227 := (by injection e227)
               (try simp only [show (1 : Int).toNat = 1 from rfl, Nat.reduceMul, Nat.reduceEqDiff, Go.Addr.add, ↓reduceIte] at hx227_0)
               have qi227 : (1 < l1.length) = True := eq_true (by omega)
               (try rw [show ((1 : Int)).toNat = 1 from rfl] at hx227_0)
               replace hx227_0 := (HB.out.cell (World.block_lt_of_cell? w _ hx227_0)).trans hx227_0
               replace p227 := eq_true p227
               replace q227 := eq_true q227
               go_wp2
               go_meet
               case rel => exact ⟨_, H', ⟨by have := HJ3.out; first | omega | exact Nat.le_refl _⟩, ⟨by repeat (first | (with_reducible first | exact HB.out | apply below_alloc | apply pw_below_drewN | apply below_drew1) | exact HB.out)⟩⟩
            ·rw [if_neg c29] at H
             have c29b0 : decide (4 ≤ (rd l1 0)) = false := decide_eq_false c29
             clear c29
             by_cases c34 : t225 = true
             ·subst c34
              have H1 : (if (rd l1 0) = 1 then (if (rd l1 1) = 1 then (some (1, false, true)) else (computusref23_Find.j1 kj3 a0 l1)) else (computusref23_Find.j1 kj3 a0 l1)) = some (r1, r2, r3) := by rw [if_pos rfl] at H; exact H
              clear H
              have H := H1
              clear H1
              by_cases c35 : (rd l1 0) = 1
              ·rw [if_pos c35] at H
               have c35b0 : ((rd l1 0) == 1) = true := beq_iff_eq.mpr c35
               have c35b1 : ((rd l1 0) != 1) = false := bne_eq_false_iff_eq.mpr c35
               clear c35
               by_cases c36 : (rd l1 1) = 1
               ·rw [if_pos c36] at H
                have c36b0 : ((rd l1 1) == 1) = true := beq_iff_eq.mpr c36
                have c36b1 : ((rd l1 1) != 1) = false := bne_eq_false_iff_eq.mpr c36
                clear c36
                simp only [Option.some.injEq, Prod.mk.injEq] at H
                obtain ⟨rfl, rfl, rfl⟩ := H
                have p226 : 0 ≤ (0 : Int) := (by omega)
                have q226 : 0 < (l1.length : Int) := of_decide_eq_true (by first | (with_reducible assumption) | assumption)
                obtain ⟨ad226, e226, hx226_0⟩ := Kd.at_int HR1.out 0 p226 q226
                cases e226
                have qi226 : (0 < l1.length) = True := eq_true (by omega)
                (try rw [show ((0 : Int)).toNat = 0 from rfl] at hx226_0)
                (try rw [Addr.add_zero'] at hx226_0)
                replace hx226_0 := (HB.out.cell (World.block_lt_of_cell? w _ hx226_0)).trans hx226_0
                replace p226 := eq_true p226
                replace q226 := eq_true q226
                have p227 : 0 ≤ (1 : Int) := (by omega)
                have q227 : 1 < (l1.length : Int) := of_decide_eq_true (by first | (with_reducible assumption) | assumption)
                obtain ⟨ad227, e227, hx227_0⟩ := Kd.at_int HR1.out 1 p227 q227
                obtain rfl : ad226 = ad227 := (by injection e227)
                (try simp only [show (1 : Int).toNat = 1 from rfl, Nat.reduceMul, Nat.reduceEqDiff, Go.Addr.add, ↓reduceIte] at hx227_0)
                have qi227 : (1 < l1.length) = True := eq_true (by omega)
                (try rw [show ((1 : Int)).toNat = 1 from rfl] at hx227_0)
                replace hx227_0 := (HB.out.cell (World.block_lt_of_cell? w _ hx227_0)).trans hx227_0
                replace p227 := eq_true p227
                replace q227 := eq_true q227
                go_wp2
                go_ret3
                exact ⟨by first | rfl | (simp [errW_none, errW_some] <;> rfl) | (simp [*, errW_none, errW_some] <;> rfl), by repeat (first | (with_reducible first | exact HB.out | apply below_alloc | apply pw_below_drewN | apply below_drew1) | exact HB.out)⟩
               ·rw [if_neg c36] at H
                have c36b0 : ((rd l1 1) == 1) = false := beq_eq_false_iff_ne.mpr c36
                have c36b1 : ((rd l1 1) != 1) = true := bne_iff_ne.mpr c36
                have H' := Aside0.mk H
                clear H
                have p226 : 0 ≤ (0 : Int) := (by omega)
                have q226 : 0 < (l1.length : Int) := of_decide_eq_true (by first | (with_reducible assumption) | assumption)
                obtain ⟨ad226, e226, hx226_0⟩ := Kd.at_int HR1.out 0 p226 q226
                cases e226
                have qi226 : (0 < l1.length) = True := eq_true (by omega)
                (try rw [show ((0 : Int)).toNat = 0 from rfl] at hx226_0)
                (try rw [Addr.add_zero'] at hx226_0)
                replace hx226_0 := (HB.out.cell (World.block_lt_of_cell? w _ hx226_0)).trans hx226_0
                replace p226 := eq_true p226
                replace q226 := eq_true q226
                have p227 : 0 ≤ (1 : Int) := (by omega)
                have q227 : 1 < (l1.length : Int) := of_decide_eq_true (by first | (with_reducible assumption) | assumption)
                obtain ⟨ad227, e227, hx227_0⟩ := Kd.at_int HR1.out 1 p227 q227
                obtain rfl : ad226 = ad227 := (by injection e227)
                (try simp only [show (1 : Int).toNat = 1 from rfl, Nat.reduceMul, Nat.reduceEqDiff, Go.Addr.add, ↓reduceIte] at hx227_0)
                have qi227 : (1 < l1.length) = True := eq_true (by omega)
                (try rw [show ((1 : Int)).toNat = 1 from rfl] at hx227_0)
                replace hx227_0 := (HB.out.cell (World.block_lt_of_cell? w _ hx227_0)).trans hx227_0
                replace p227 := eq_true p227
                replace q227 := eq_true q227
                go_wp2
                go_meet
                case rel => exact ⟨_, H', ⟨by have := HJ3.out; first | omega | exact Nat.le_refl _⟩, ⟨by repeat (first | (with_reducible first | exact HB.out | apply below_alloc | apply pw_below_drewN | apply below_drew1) | exact HB.out)⟩⟩
              ·rw [if_neg c35] at H
               have c35b0 : ((rd l1 0) == 1) = false := beq_eq_false_iff_ne.mpr c35
               have c35b1 : ((rd l1 0) != 1) = true := bne_iff_ne.mpr c35
               have H' := Aside0.mk H
               clear H
               have p226 : 0 ≤ (0 : Int) := (by omega)
               have q226 : 0 < (l1.length : Int) := of_decide_eq_true (by first | (with_reducible assumption) | assumption)
               obtain ⟨ad226, e226, hx226_0⟩ := Kd.at_int HR1.out 0 p226 q226
               cases e226
               have qi226 : (0 < l1.length) = True := eq_true (by omega)
               (try rw [show ((0 : Int)).toNat = 0 from rfl] at hx226_0)
               (try rw [Addr.add_zero'] at hx226_0)
               replace hx226_0 := (HB.out.cell (World.block_lt_of_cell? w _ hx226_0)).trans hx226_0
               replace p226 := eq_true p226
               replace q226 := eq_true q226
               have p227 : 0 ≤ (1 : Int) := (by omega)
               have q227 : 1 < (l1.length : Int) := of_decide_eq_true (by first | (with_reducible assumption) | assumption)
               obtain ⟨ad227, e227, hx227_0⟩ := Kd.at_int HR1.out 1 p227 q227
               obtain rfl : ad226 = ad227 := (by injection e227)
               (try simp only [show (1 : Int).toNat = 1 from rfl, Nat.reduceMul, Nat.reduceEqDiff, Go.Addr.add, ↓reduceIte] at hx227_0)
               have qi227 : (1 < l1.length) = True := eq_true (by omega)
               (try rw [show ((1 : Int)).toNat = 1 from rfl] at hx227_0)
               replace hx227_0 := (HB.out.cell (World.block_lt_of_cell? w _ hx227_0)).trans hx227_0
               replace p227 := eq_true p227
               replace q227 := eq_true q227
               go_wp2
               go_meet
               case rel => exact ⟨_, H', ⟨by have := HJ3.out; first | omega | exact Nat.le_refl _⟩, ⟨by repeat (first | (with_reducible first | exact HB.out | apply below_alloc | apply pw_below_drewN | apply below_drew1) | exact HB.out)⟩⟩
             ·replace c34 := Bool.eq_false_iff.mpr c34
              subst c34
              have H1 : (computusref23_Find.j1 kj3 a0 l1) = some (r1, r2, r3) := by rw [if_neg (show ¬ (false = true) by decide)] at H; exact H
              clear H
              have H := H1
              clear H1
              have H' := Aside0.mk H
              clear H
              have p226 : 0 ≤ (0 : Int) := (by omega)
              have q226 : 0 < (l1.length : Int) := of_decide_eq_true (by first | (with_reducible assumption) | assumption)
              obtain ⟨ad226, e226, hx226_0⟩ := Kd.at_int HR1.out 0 p226 q226
              cases e226
              have qi226 : (0 < l1.length) = True := eq_true (by omega)
              (try rw [show ((0 : Int)).toNat = 0 from rfl] at hx226_0)
              (try rw [Addr.add_zero'] at hx226_0)
              replace hx226_0 := (HB.out.cell (World.block_lt_of_cell? w _ hx226_0)).trans hx226_0
              replace p226 := eq_true p226
              replace q226 := eq_true q226
              have p227 : 0 ≤ (1 : Int) := (by omega)
              have q227 : 1 < (l1.length : Int) := of_decide_eq_true (by first | (with_reducible assumption) | assumption)
              obtain ⟨ad227, e227, hx227_0⟩ := Kd.at_int HR1.out 1 p227 q227
              obtain rfl : ad226 = ad227 := (by injection e227)
              (try simp only [show (1 : Int).toNat = 1 from rfl, Nat.reduceMul, Nat.reduceEqDiff, Go.Addr.add, ↓reduceIte] at hx227_0)
              have qi227 : (1 < l1.length) = True := eq_true (by omega)
              (try rw [show ((1 : Int)).toNat = 1 from rfl] at hx227_0)
              replace hx227_0 := (HB.out.cell (World.block_lt_of_cell? w _ hx227_0)).trans hx227_0
              replace p227 := eq_true p227
              replace q227 := eq_true q227
              go_wp2
              go_meet
              case rel => exact ⟨_, H', ⟨by have := HJ3.out; first | omega | exact Nat.le_refl _⟩, ⟨by repeat (first | (with_reducible first | exact HB.out | apply below_alloc | apply pw_below_drewN | apply below_drew1) | exact HB.out)⟩⟩
           ·rw [if_neg c28] at H
            have c28b0 : ((rd l1 0) == (rd l1 1)) = false := beq_eq_false_iff_ne.mpr c28
            have c28b1 : ((rd l1 0) != (rd l1 1)) = true := bne_iff_ne.mpr c28
            by_cases c37 : t225 = true
            ·subst c37
             have H1 : (if (rd l1 0) = 1 then (if (rd l1 1) = 1 then (some (1, false, true)) else (computusref23_Find.j1 kj3 a0 l1)) else (computusref23_Find.j1 kj3 a0 l1)) = some (r1, r2, r3) := by rw [if_pos rfl] at H; exact H
             clear H
             have H := H1
             clear H1
             by_cases c38 : (rd l1 0) = 1
             ·rw [if_pos c38] at H
              have c38b0 : ((rd l1 0) == 1) = true := beq_iff_eq.mpr c38
              have c38b1 : ((rd l1 0) != 1) = false := bne_eq_false_iff_eq.mpr c38
              clear c38
              by_cases c39 : (rd l1 1) = 1
              ·rw [if_pos c39] at H
               have c39b0 : ((rd l1 1) == 1) = true := beq_iff_eq.mpr c39
               have c39b1 : ((rd l1 1) != 1) = false := bne_eq_false_iff_eq.mpr c39
               clear c39
               simp only [Option.some.injEq, Prod.mk.injEq] at H
               obtain ⟨rfl, rfl, rfl⟩ := H
               have p226 : 0 ≤ (0 : Int) := (by omega)
               have q226 : 0 < (l1.length : Int) := of_decide_eq_true (by first | (with_reducible assumption) | assumption)
               obtain ⟨ad226, e226, hx226_0⟩ := Kd.at_int HR1.out 0 p226 q226
               cases e226
               have qi226 : (0 < l1.length) = True := eq_true (by omega)
               (try rw [show ((0 : Int)).toNat = 0 from rfl] at hx226_0)
               (try rw [Addr.add_zero'] at hx226_0)
               replace hx226_0 := (HB.out.cell (World.block_lt_of_cell? w _ hx226_0)).trans hx226_0
               replace p226 := eq_true p226
               replace q226 := eq_true q226
               have p227 : 0 ≤ (1 : Int) := (by omega)
               have q227 : 1 < (l1.length : Int) := of_decide_eq_true (by first | (with_reducible assumption) | assumption)
               obtain ⟨ad227, e227, hx227_0⟩ := Kd.at_int HR1.out 1 p227 q227
               obtain rfl : ad226 = ad227 := (by injection e227)
               (try simp only [show (1 : Int).toNat = 1 from rfl, Nat.reduceMul, Nat.reduceEqDiff, Go.Addr.add, ↓reduceIte] at hx227_0)
               have qi227 : (1 < l1.length) = True := eq_true (by omega)
               (try rw [show ((1 : Int)).toNat = 1 from rfl] at hx227_0)
               replace hx227_0 := (HB.out.cell (World.block_lt_of_cell? w _ hx227_0)).trans hx227_0
               replace p227 := eq_true p227
               replace q227 := eq_true q227
               go_wp2
               go_ret3
               exact ⟨by first | rfl | (simp [errW_none, errW_some] <;> rfl) | (simp [*, errW_none, errW_some] <;> rfl), by repeat (first | (with_reducible first | exact HB.out | apply below_alloc | apply pw_below_drewN | apply below_drew1) | exact HB.out)⟩
              ·rw [if_neg c39] at H
               have c39b0 : ((rd l1 1) == 1) = false := beq_eq_false_iff_ne.mpr c39
               have c39b1 : ((rd l1 1) != 1) = true := bne_iff_ne.mpr c39
               have H' := Aside0.mk H
               clear H
               have p226 : 0 ≤ (0 : Int) := (by omega)
               have q226 : 0 < (l1.length : Int) := of_decide_eq_true (by first | (with_reducible assumption) | assumption)
               obtain ⟨ad226, e226, hx226_0⟩ := Kd.at_int HR1.out 0 p226 q226
               cases e226
               have qi226 : (0 < l1.length) = True := eq_true (by omega)
               (try rw [show ((0 : Int)).toNat = 0 from rfl] at hx226_0)
               (try rw [Addr.add_zero'] at hx226_0)
               replace hx226_0 := (HB.out.cell (World.block_lt_of_cell? w _ hx226_0)).trans hx226_0
               replace p226 := eq_true p226
               replace q226 := eq_true q226
               have p227 : 0 ≤ (1 : Int) := (by omega)
               have q227 : 1 < (l1.length : Int) := of_decide_eq_true (by first | (with_reducible assumption) | assumption)
               obtain ⟨ad227, e227, hx227_0⟩ := Kd.at_int HR1.out 1 p227 q227
               obtain rfl : ad226 = ad227 := (by injection e227)
               (try simp only [show (1 : Int).toNat = 1 from rfl, Nat.reduceMul, Nat.reduceEqDiff, Go.Addr.add, ↓reduceIte] at hx227_0)
               have qi227 : (1 < l1.length) = True := eq_true (by omega)
               (try rw [show ((1 : Int)).toNat = 1 from rfl] at hx227_0)
               replace hx227_0 := (HB.out.cell (World.block_lt_of_cell? w _ hx227_0)).trans hx227_0
               replace p227 := eq_true p227
               replace q227 := eq_true q227
               go_wp2
               go_meet
               case rel => exact ⟨_, H', ⟨by have := HJ3.out; first | omega | exact Nat.le_refl _⟩, ⟨by repeat (first | (with_reducible first | exact HB.out | apply below_alloc | apply pw_below_drewN | apply below_drew1) | exact HB.out)⟩⟩
             ·rw [if_neg c38] at H
              have c38b0 : ((rd l1 0) == 1) = false := beq_eq_false_iff_ne.mpr c38
              have c38b1 : ((rd l1 0) != 1) = true := bne_iff_ne.mpr c38
              have H' := Aside0.mk H
              clear H
              have p226 : 0 ≤ (0 : Int) := (by omega)
              have q226 : 0 < (l1.length : Int) := of_decide_eq_true (by first | (with_reducible assumption) | assumption)
              obtain ⟨ad226, e226, hx226_0⟩ := Kd.at_int HR1.out 0 p226 q226
              cases e226
              have qi226 : (0 < l1.length) = True := eq_true (by omega)
              (try rw [show ((0 : Int)).toNat = 0 from rfl] at hx226_0)
              (try rw [Addr.add_zero'] at hx226_0)
              replace hx226_0 := (HB.out.cell (World.block_lt_of_cell? w _ hx226_0)).trans hx226_0
              replace p226 := eq_true p226
              replace q226 := eq_true q226
              have p227 : 0 ≤ (1 : Int) := (by omega)
              have q227 : 1 < (l1.length : Int) := of_decide_eq_true (by first | (with_reducible assumption) | assumption)
              obtain ⟨ad227, e227, hx227_0⟩ := Kd.at_int HR1.out 1 p227 q227
              obtain rfl : ad226 = ad227 := (by injection e227)
              (try simp only [show (1 : Int).toNat = 1 from rfl, Nat.reduceMul, Nat.reduceEqDiff, Go.Addr.add, ↓reduceIte] at hx227_0)
              have qi227 : (1 < l1.length) = True := eq_true (by omega)
              (try rw [show ((1 : Int)).toNat = 1 from rfl] at hx227_0)
              replace hx227_0 := (HB.out.cell (World.block_lt_of_cell? w _ hx227_0)).trans hx227_0
              replace p227 := eq_true p227
              replace q227 := eq_true q227
              go_wp2
              go_meet
              case rel => exact ⟨_, H', ⟨by have := HJ3.out; first | omega | exact Nat.le_refl _⟩, ⟨by repeat (first | (with_reducible first | exact HB.out | apply below_alloc | apply pw_below_drewN | apply below_drew1) | exact HB.out)⟩⟩
            ·replace c37 := Bool.eq_false_iff.mpr c37
             subst c37
             have H1 : (computusref23_Find.j1 kj3 a0 l1) = some (r1, r2, r3) := by rw [if_neg (show ¬ (false = true) by decide)] at H; exact H
             clear H
             have H := H1
             clear H1
             have H' := Aside0.mk H
             clear H
             have p226 : 0 ≤ (0 : Int) := (by omega)
             have q226 : 0 < (l1.length : Int) := of_decide_eq_true (by first | (with_reducible assumption) | assumption)
             obtain ⟨ad226, e226, hx226_0⟩ := Kd.at_int HR1.out 0 p226 q226
             cases e226
             have qi226 : (0 < l1.length) = True := eq_true (by omega)
             (try rw [show ((0 : Int)).toNat = 0 from rfl] at hx226_0)
             (try rw [Addr.add_zero'] at hx226_0)
             replace hx226_0 := (HB.out.cell (World.block_lt_of_cell? w _ hx226_0)).trans hx226_0
             replace p226 := eq_true p226
             replace q226 := eq_true q226
             have p227 : 0 ≤ (1 : Int) := (by omega)
             have q227 : 1 < (l1.length : Int) := of_decide_eq_true (by first | (with_reducible assumption) | assumption)
             obtain ⟨ad227, e227, hx227_0⟩ := Kd.at_int HR1.out 1 p227 q227
             obtain rfl : ad226 = ad227 := (by injection e227)
             (try simp only [show (1 : Int).toNat = 1 from rfl, Nat.reduceMul, Nat.reduceEqDiff, Go.Addr.add, ↓reduceIte] at hx227_0)
             have qi227 : (1 < l1.length) = True := eq_true (by omega)
             (try rw [show ((1 : Int)).toNat = 1 from rfl] at hx227_0)
             replace hx227_0 := (HB.out.cell (World.block_lt_of_cell? w _ hx227_0)).trans hx227_0
             replace p227 := eq_true p227
             replace q227 := eq_true q227
             go_wp2
             go_meet
             case rel => exact ⟨_, H', ⟨by have := HJ3.out; first | omega | exact Nat.le_refl _⟩, ⟨by repeat (first | (with_reducible first | exact HB.out | apply below_alloc | apply pw_below_drewN | apply below_drew1) | exact HB.out)⟩⟩
        ·rw [if_neg c25] at H
         have c25b0 : ((rd l1 0) == 3) = false := beq_eq_false_iff_ne.mpr c25
         have c25b1 : ((rd l1 0) != 3) = true := bne_iff_ne.mpr c25
         by_cases c40 : (rd l1 0) = (rd l1 1)
         ·rw [if_pos c40] at H
          have c40b0 : ((rd l1 0) == (rd l1 1)) = true := beq_iff_eq.mpr c40
          have c40b1 : ((rd l1 0) != (rd l1 1)) = false := bne_eq_false_iff_eq.mpr c40
          clear c40
          by_cases c41 : (rd l1 0) ≥ 4
          ·rw [if_pos c41] at H
           have c41b0 : decide (4 ≤ (rd l1 0)) = true := decide_eq_true c41
           clear c41
           by_cases c42 : (rd l1 0) ≤ 8
           ·rw [if_pos c42] at H
            have c42b0 : decide ((rd l1 0) ≤ 8) = true := decide_eq_true c42
            clear c42
            simp only [Option.some.injEq, Prod.mk.injEq] at H
            obtain ⟨rfl, rfl, rfl⟩ := H
            have p226 : 0 ≤ (0 : Int) := (by omega)
            have q226 : 0 < (l1.length : Int) := of_decide_eq_true (by first | (with_reducible assumption) | assumption)
            obtain ⟨ad226, e226, hx226_0⟩ := Kd.at_int HR1.out 0 p226 q226
            cases e226
            have qi226 : (0 < l1.length) = True := eq_true (by omega)
            (try rw [show ((0 : Int)).toNat = 0 from rfl] at hx226_0)
            (try rw [Addr.add_zero'] at hx226_0)
            replace hx226_0 := (HB.out.cell (World.block_lt_of_cell? w _ hx226_0)).trans hx226_0
            replace p226 := eq_true p226
            replace q226 := eq_true q226
            have p227 : 0 ≤ (1 : Int) := (by omega)
            have q227 : 1 < (l1.length : Int) := of_decide_eq_true (by first | (with_reducible assumption) | assumption)
            obtain ⟨ad227, e227, hx227_0⟩ := Kd.at_int HR1.out 1 p227 q227
            obtain rfl : ad226 = ad227 := (by injection e227)
            (try simp only [show (1 : Int).toNat = 1 from rfl, Nat.reduceMul, Nat.reduceEqDiff, Go.Addr.add, ↓reduceIte] at hx227_0)
            have qi227 : (1 < l1.length) = True := eq_true (by omega)
            (try rw [show ((1 : Int)).toNat = 1 from rfl] at hx227_0)
            replace hx227_0 := (HB.out.cell (World.block_lt_of_cell? w _ hx227_0)).trans hx227_0
            replace p227 := eq_true p227
            replace q227 := eq_true q227
            go_wp2
            go_ret3
            exact ⟨by first | rfl | (simp [errW_none, errW_some] <;> rfl) | (simp [*, errW_none, errW_some] <;> rfl), by repeat (first | (with_reducible first | exact HB.out | apply below_alloc | apply pw_below_drewN | apply below_drew1) | exact HB.out)⟩
           ·rw [if_neg c42] at H
            have c42b0 : decide ((rd l1 0) ≤ 8) = false := decide_eq_false c42
            clear c42
            by_cases c43 : t225 = true
            ·subst c43
             have H1 : (if (rd l1 0) = 1 then (if (rd l1 1) = 1 then (some (1, false, true)) else (computusref23_Find.j1 kj3 a0 l1)) else (computusref23_Find.j1 kj3 a0 l1)) = some (r1, r2, r3) := by rw [if_pos rfl] at H; exact H
             clear H
             have H := H1
             clear H1
             by_cases c44 : (rd l1 0) = 1
             ·rw [if_pos c44] at H
              have c44b0 : ((rd l1 0) == 1) = true := beq_iff_eq.mpr c44
              have c44b1 : ((rd l1 0) != 1) = false := bne_eq_false_iff_eq.mpr c44
              clear c44
              by_cases c45 : (rd l1 1) = 1
              ·rw [if_pos c45] at H
               have c45b0 : ((rd l1 1) == 1) = true := beq_iff_eq.mpr c45
               have c45b1 : ((rd l1 1) != 1) = false := bne_eq_false_iff_eq.mpr c45
               clear c45
               simp only [Option.some.injEq, Prod.mk.injEq] at H
               obtain ⟨rfl, rfl, rfl⟩ := H
               have p226 : 0 ≤ (0 : Int) := (by omega)
               have q226 : 0 < (l1.length : Int) := of_decide_eq_true (by first | (with_reducible assumption) | assumption)
               obtain ⟨ad226, e226, hx226_0⟩ := Kd.at_int HR1.out 0 p226 q226
               cases e226
               have qi226 : (0 < l1.length) = True := eq_true (by omega)
               (try rw [show ((0 : Int)).toNat = 0 from rfl] at hx226_0)
               (try rw [Addr.add_zero'] at hx226_0)
               replace hx226_0 := (HB.out.cell (World.block_lt_of_cell? w _ hx226_0)).trans hx226_0
               replace p226 := eq_true p226
               replace q226 := eq_true q226
               have p227 : 0 ≤ (1 : Int) := (by omega)
               have q227 : 1 < (l1.length : Int) := of_decide_eq_true (by first | (with_reducible assumption) | assumption)
               obtain ⟨ad227, e227, hx227_0⟩ := Kd.at_int HR1.out 1 p227 q227
               obtain rfl : ad226 = ad227 := (by injection e227)
               (try simp only [show (1 : Int).toNat = 1 from rfl, Nat.reduceMul, Nat.reduceEqDiff, Go.Addr.add, ↓reduceIte] at hx227_0)
               have qi227 : (1 < l1.length) = True := eq_true (by omega)
               (try rw [show ((1 : Int)).toNat = 1 from rfl] at hx227_0)
               replace hx227_0 := (HB.out.cell (World.block_lt_of_cell? w _ hx227_0)).trans hx227_0
               replace p227 := eq_true p227
               replace q227 := eq_true q227
               go_wp2
               go_ret3
               exact ⟨by first | rfl | (simp [errW_none, errW_some] <;> rfl) | (simp [*, errW_none, errW_some] <;> rfl), by repeat (first | (with_reducible first | exact HB.out | apply below_alloc | apply pw_below_drewN | apply below_drew1) | exact HB.out)⟩
              ·rw [if_neg c45] at H
               have c45b0 : ((rd l1 1) == 1) = false := beq_eq_false_iff_ne.mpr c45
               have c45b1 : ((rd l1 1) != 1) = true := bne_iff_ne.mpr c45
               have H' := Aside0.mk H
               clear H
               have p226 : 0 ≤ (0 : Int) := (by omega)
               have q226 : 0 < (l1.length : Int) := of_decide_eq_true (by first | (with_reducible assumption) | assumption)
               obtain ⟨ad226, e226, hx226_0⟩ := Kd.at_int HR1.out 0 p226 q226
               cases e226
               have qi226 : (0 < l1.length) = True := eq_true (by omega)
               (try rw [show ((0 : Int)).toNat = 0 from rfl] at hx226_0)
               (try rw [Addr.add_zero'] at hx226_0)
               replace hx226_0 := (HB.out.cell (World.block_lt_of_cell? w _ hx226_0)).trans hx226_0
               replace p226 := eq_true p226
               replace q226 := eq_true q226
               have p227 : 0 ≤ (1 : Int) := (by omega)
               have q227 : 1 < (l1.length : Int) := of_decide_eq_true (by first | (with_reducible assumption) | assumption)
               obtain ⟨ad227, e227, hx227_0⟩ := Kd.at_int HR1.out 1 p227 q227
               obtain rfl : ad226 = ad227 := (by injection e227)
               (try simp only [show (1 : Int).toNat = 1 from rfl, Nat.reduceMul, Nat.reduceEqDiff, Go.Addr.add, ↓reduceIte] at hx227_0)
               have qi227 : (1 < l1.length) = True := eq_true (by omega)
               (try rw [show ((1 : Int)).toNat = 1 from rfl] at hx227_0)
               replace hx227_0 := (HB.out.cell (World.block_lt_of_cell? w _ hx227_0)).trans hx227_0
               replace p227 := eq_true p227
               replace q227 := eq_true q227
               go_wp2
               go_meet
               case rel => exact ⟨_, H', ⟨by have := HJ3.out; first | omega | exact Nat.le_refl _⟩, ⟨by repeat (first | (with_reducible first | exact HB.out | apply below_alloc | apply pw_below_drewN | apply below_drew1) | exact HB.out)⟩⟩
             ·rw [if_neg c44] at H
              have c44b0 : ((rd l1 0) == 1) = false := beq_eq_false_iff_ne.mpr c44
              have c44b1 : ((rd l1 0) != 1) = true := bne_iff_ne.mpr c44
              have H' := Aside0.mk H
              clear H
              have p226 : 0 ≤ (0 : Int) := (by omega)
              have q226 : 0 < (l1.length : Int) := of_decide_eq_true (by first | (with_reducible assumption) | assumption)
              obtain ⟨ad226, e226, hx226_0⟩ := Kd.at_int HR1.out 0 p226 q226
              cases e226
              have qi226 : (0 < l1.length) = True := eq_true (by omega)
              (try rw [show ((0 : Int)).toNat = 0 from rfl] at hx226_0)
              (try rw [Addr.add_zero'] at hx226_0)
              replace hx226_0 := (HB.out.cell (World.block_lt_of_cell? w _ hx226_0)).trans hx226_0
              replace p226 := eq_true p226
              replace q226 := eq_true q226
              have p227 : 0 ≤ (1 : Int) := (by omega)
              have q227 : 1 < (l1.length : Int) := of_decide_eq_true (by first | (with_reducible assumption) | assumption)
              obtain ⟨ad227, e227, hx227_0⟩ := Kd.at_int HR1.out 1 p227 q227
              obtain rfl : ad226 = ad227 := (by injection e227)
              (try simp only [show (1 : Int).toNat = 1 from rfl, Nat.reduceMul, Nat.reduceEqDiff, Go.Addr.add, ↓reduceIte] at hx227_0)
              have qi227 : (1 < l1.length) = True := eq_true (by omega)
              (try rw [show ((1 : Int)).toNat = 1 from rfl] at hx227_0)
              replace hx227_0 := (HB.out.cell (World.block_lt_of_cell? w _ hx227_0)).trans hx227_0
              replace p227 := eq_true p227
              replace q227 := eq_true q227
              go_wp2
              go_meet
              case rel => exact ⟨_, H', ⟨by have := HJ3.out; first | omega | exact Nat.le_refl _⟩, ⟨by repeat (first | (with_reducible first | exact HB.out | apply below_alloc | apply pw_below_drewN | apply below_drew1) | exact HB.out)⟩⟩
            ·replace c43 := Bool.eq_false_iff.mpr c43
             subst c43
             have H1 : (computusref23_Find.j1 kj3 a0 l1) = some (r1, r2, r3) := by rw [if_neg (show ¬ (false = true) by decide)] at H; exact H
             clear H
             have H := H1
             clear H1
             have H' := Aside0.mk H
             clear H
             have p226 : 0 ≤ (0 : Int) := (by omega)
             have q226 : 0 < (l1.length : Int) := of_decide_eq_true (by first | (with_reducible assumption) | assumption)
             obtain ⟨ad226, e226, hx226_0⟩ := Kd.at_int HR1.out 0 p226 q226
             cases e226
             have qi226 : (0 < l1.length) = True := eq_true (by omega)
             (try rw [show ((0 : Int)).toNat = 0 from rfl] at hx226_0)
             (try rw [Addr.add_zero'] at hx226_0)
             replace hx226_0 := (HB.out.cell (World.block_lt_of_cell? w _ hx226_0)).trans hx226_0
             replace p226 := eq_true p226
             replace q226 := eq_true q226
             have p227 : 0 ≤ (1 : Int) := (by omega)
             have q227 : 1 < (l1.length : Int) := of_decide_eq_true (by first | (with_reducible assumption) | assumption)
             obtain ⟨ad227, e227, hx227_0⟩ := Kd.at_int HR1.out 1 p227 q227
             obtain rfl : ad226 = ad227 := (by injection e227)
             (try simp only [show (1 : Int).toNat = 1 from rfl, Nat.reduceMul, Nat.reduceEqDiff, Go.Addr.add, ↓reduceIte] at hx227_0)
             have qi227 : (1 < l1.length) = True := eq_true (by omega)
             (try rw [show ((1 : Int)).toNat = 1 from rfl] at hx227_0)
             replace hx227_0 := (HB.out.cell (World.block_lt_of_cell? w _ hx227_0)).trans hx227_0
             replace p227 := eq_true p227
             replace q227 := eq_true q227
             go_wp2
             go_meet
             case rel => exact ⟨_, H', ⟨by have := HJ3.out; first | omega | exact Nat.le_refl _⟩, ⟨by repeat (first | (with_reducible first | exact HB.out | apply below_alloc | apply pw_below_drewN | apply below_drew1) | exact HB.out)⟩⟩
          ·rw [if_neg c41] at H
           have c41b0 : decide (4 ≤ (rd l1 0)) = false := decide_eq_false c41
           clear c41
           by_cases c46 : t225 = true
           ·subst c46
            have H1 : (if (rd l1 0) = 1 then (if (rd l1 1) = 1 then (some (1, false, true)) else (computusref23_Find.j1 kj3 a0 l1)) else (computusref23_Find.j1 kj3 a0 l1)) = some (r1, r2, r3) := by rw [if_pos rfl] at H; exact H
            clear H
            have H := H1
            clear H1
            by_cases c47 : (rd l1 0) = 1
            ·rw [if_pos c47] at H
             have c47b0 : ((rd l1 0) == 1) = true := beq_iff_eq.mpr c47
             have c47b1 : ((rd l1 0) != 1) = false := bne_eq_false_iff_eq.mpr c47
             clear c47
             by_cases c48 : (rd l1 1) = 1
             ·rw [if_pos c48] at H
              have c48b0 : ((rd l1 1) == 1) = true := beq_iff_eq.mpr c48
              have c48b1 : ((rd l1 1) != 1) = false := bne_eq_false_iff_eq.mpr c48
              clear c48
              simp only [Option.some.injEq, Prod.mk.injEq] at H
              obtain ⟨rfl, rfl, rfl⟩ := H
              have p226 : 0 ≤ (0 : Int) := (by omega)
              have q226 : 0 < (l1.length : Int) := of_decide_eq_true (by first | (with_reducible assumption) | assumption)
              obtain ⟨ad226, e226, hx226_0⟩ := Kd.at_int HR1.out 0 p226 q226
              cases e226
              have qi226 : (0 < l1.length) = True := eq_true (by omega)
              (try rw [show ((0 : Int)).toNat = 0 from rfl] at hx226_0)
              (try rw [Addr.add_zero'] at hx226_0)
              replace hx226_0 := (HB.out.cell (World.block_lt_of_cell? w _ hx226_0)).trans hx226_0
              replace p226 := eq_true p226
              replace q226 := eq_true q226
              have p227 : 0 ≤ (1 : Int) := (by omega)
              have q227 : 1 < (l1.length : Int) := of_decide_eq_true (by first | (with_reducible assumption) | assumption)
              obtain ⟨ad227, e227, hx227_0⟩ := Kd.at_int HR1.out 1 p227 q227
              obtain rfl : ad226 = ad227 := (by injection e227)
              (try simp only [show (1 : Int).toNat = 1 from rfl, Nat.reduceMul, Nat.reduceEqDiff, Go.Addr.add, ↓reduceIte] at hx227_0)
              have qi227 : (1 < l1.length) = True := eq_true (by omega)
              (try rw [show ((1 : Int)).toNat = 1 from rfl] at hx227_0)
              replace hx227_0 := (HB.out.cell (World.block_lt_of_cell? w _ hx227_0)).trans hx227_0
              replace p227 := eq_true p227
              replace q227 := eq_true q227
              go_wp2
              go_ret3
              exact ⟨by first | rfl | (simp [errW_none, errW_some] <;> rfl) | (simp [*, errW_none, errW_some] <;> rfl), by repeat (first | (with_reducible first | exact HB.out | apply below_alloc | apply pw_below_drewN | apply below_drew1) | exact HB.out)⟩
             ·rw [if_neg c48] at H
              have c48b0 : ((rd l1 1) == 1) = false := beq_eq_false_iff_ne.mpr c48
              have c48b1 : ((rd l1 1) != 1) = true := bne_iff_ne.mpr c48
              have H' := Aside0.mk H
              clear H
              have p226 : 0 ≤ (0 : Int) := (by omega)
              have q226 : 0 < (l1.length : Int) := of_decide_eq_true (by first | (with_reducible assumption) | assumption)
              obtain ⟨ad226, e226, hx226_0⟩ := Kd.at_int HR1.out 0 p226 q226
              cases e226
              have qi226 : (0 < l1.length) = True := eq_true (by omega)
              (try rw [show ((0 : Int)).toNat = 0 from rfl] at hx226_0)
              (try rw [Addr.add_zero'] at hx226_0)
              replace hx226_0 := (HB.out.cell (World.block_lt_of_cell? w _ hx226_0)).trans hx226_0
              replace p226 := eq_true p226
              replace q226 := eq_true q226
              have p227 : 0 ≤ (1 : Int) := (by omega)
              have q227 : 1 < (l1.length : Int) := of_decide_eq_true (by first | (with_reducible assumption) | assumption)
              obtain ⟨ad227, e227, hx227_0⟩ := Kd.at_int HR1.out 1 p227 q227
              obtain rfl : ad226 = ad227 := (by injection e227)
              (try simp only [show (1 : Int).toNat = 1 from rfl, Nat.reduceMul, Nat.reduceEqDiff, Go.Addr.add, ↓reduceIte] at hx227_0)
              have qi227 : (1 < l1.length) = True := eq_true (by omega)
              (try rw [show ((1 : Int)).toNat = 1 from rfl] at hx227_0)
              replace hx227_0 := (HB.out.cell (World.block_lt_of_cell? w _ hx227_0)).trans hx227_0
              replace p227 := eq_true p227
              replace q227 := eq_true q227
              go_wp2
              go_meet
              case rel => exact ⟨_, H', ⟨by have := HJ3.out; first | omega | exact Nat.le_refl _⟩, ⟨by repeat (first | (with_reducible first | exact HB.out | apply below_alloc | apply pw_below_drewN | apply below_drew1) | exact HB.out)⟩⟩
            ·rw [if_neg c47] at H
             have c47b0 : ((rd l1 0) == 1) = false := beq_eq_false_iff_ne.mpr c47
             have c47b1 : ((rd l1 0) != 1) = true := bne_iff_ne.mpr c47
             have H' := Aside0.mk H
             clear H
             have p226 : 0 ≤ (0 : Int) := (by omega)
             have q226 : 0 < (l1.length : Int) := of_decide_eq_true (by first | (with_reducible assumption) | assumption)
             obtain ⟨ad226, e226, hx226_0⟩ := Kd.at_int HR1.out 0 p226 q226
             cases e226
             have qi226 : (0 < l1.length) = True := eq_true (by omega)
             (try rw [show ((0 : Int)).toNat = 0 from rfl] at hx226_0)
             (try rw [Addr.add_zero'] at hx226_0)
             replace hx226_0 := (HB.out.cell (World.block_lt_of_cell? w _ hx226_0)).trans hx226_0
             replace p226 := eq_true p226
             replace q226 := eq_true q226
             have p227 : 0 ≤ (1 : Int) := (by omega)
             have q227 : 1 < (l1.length : Int) := of_decide_eq_true (by first | (with_reducible assumption) | assumption)
             obtain ⟨ad227, e227, hx227_0⟩ := Kd.at_int HR1.out 1 p227 q227
             obtain rfl : ad226 = ad227 := (by injection e227)
             (try simp only [show (1 : Int).toNat = 1 from rfl, Nat.reduceMul, Nat.reduceEqDiff, Go.Addr.add, ↓reduceIte] at hx227_0)
             have qi227 : (1 < l1.length) = True := eq_true (by omega)
             (try rw [show ((1 : Int)).toNat = 1 from rfl] at hx227_0)
             replace hx227_0 := (HB.out.cell (World.block_lt_of_cell? w _ hx227_0)).trans hx227_0
             replace p227 := eq_true p227
             replace q227 := eq_true q227
             go_wp2
             go_meet
             case rel => exact ⟨_, H', ⟨by have := HJ3.out; first | omega | exact Nat.le_refl _⟩, ⟨by repeat (first | (with_reducible first | exact HB.out | apply below_alloc | apply pw_below_drewN | apply below_drew1) | exact HB.out)⟩⟩
           ·replace c46 := Bool.eq_false_iff.mpr c46
            subst c46
            have H1 : (computusref23_Find.j1 kj3 a0 l1) = some (r1, r2, r3) := by rw [if_neg (show ¬ (false = true) by decide)] at H; exact H
            clear H
            have H := H1
            clear H1
            have H' := Aside0.mk H
            clear H
            have p226 : 0 ≤ (0 : Int) := (by omega)
            have q226 : 0 < (l1.length : Int) := of_decide_eq_true (by first | (with_reducible assumption) | assumption)
            obtain ⟨ad226, e226, hx226_0⟩ := Kd.at_int HR1.out 0 p226 q226
            cases e226
            have qi226 : (0 < l1.length) = True := eq_true (by omega)
            (try rw [show ((0 : Int)).toNat = 0 from rfl] at hx226_0)
            (try rw [Addr.add_zero'] at hx226_0)
            replace hx226_0 := (HB.out.cell (World.block_lt_of_cell? w _ hx226_0)).trans hx226_0
            replace p226 := eq_true p226
            replace q226 := eq_true q226
            have p227 : 0 ≤ (1 : Int) := (by omega)
            have q227 : 1 < (l1.length : Int) := of_decide_eq_true (by first | (with_reducible assumption) | assumption)
            obtain ⟨ad227, e227, hx227_0⟩ := Kd.at_int HR1.out 1 p227 q227
            obtain rfl : ad226 = ad227 := (by injection e227)
            (try simp only [show (1 : Int).toNat = 1 from rfl, Nat.reduceMul, Nat.reduceEqDiff, Go.Addr.add, ↓reduceIte] at hx227_0)
            have qi227 : (1 < l1.length) = True := eq_true (by omega)
            (try rw [show ((1 : Int)).toNat = 1 from rfl] at hx227_0)
            replace hx227_0 := (HB.out.cell (World.block_lt_of_cell? w _ hx227_0)).trans hx227_0
            replace p227 := eq_true p227
            replace q227 := eq_true q227
            go_wp2
            go_meet
            case rel => exact ⟨_, H', ⟨by have := HJ3.out; first | omega | exact Nat.le_refl _⟩, ⟨by repeat (first | (with_reducible first | exact HB.out | apply below_alloc | apply pw_below_drewN | apply below_drew1) | exact HB.out)⟩⟩
         ·rw [if_neg c40] at H
          have c40b0 : ((rd l1 0) == (rd l1 1)) = false := beq_eq_false_iff_ne.mpr c40
          have c40b1 : ((rd l1 0) != (rd l1 1)) = true := bne_iff_ne.mpr c40
          by_cases c49 : t225 = true
          ·subst c49
           have H1 : (if (rd l1 0) = 1 then (if (rd l1 1) = 1 then (some (1, false, true)) else (computusref23_Find.j1 kj3 a0 l1)) else (computusref23_Find.j1 kj3 a0 l1)) = some (r1, r2, r3) := by rw [if_pos rfl] at H; exact H
           clear H
           have H := H1
           clear H1
           by_cases c50 : (rd l1 0) = 1
           ·rw [if_pos c50] at H
            have c50b0 : ((rd l1 0) == 1) = true := beq_iff_eq.mpr c50
            have c50b1 : ((rd l1 0) != 1) = false := bne_eq_false_iff_eq.mpr c50
            clear c50
            by_cases c51 : (rd l1 1) = 1
            ·rw [if_pos c51] at H
             have c51b0 : ((rd l1 1) == 1) = true := beq_iff_eq.mpr c51
             have c51b1 : ((rd l1 1) != 1) = false := bne_eq_false_iff_eq.mpr c51
             clear c51
             simp only [Option.some.injEq, Prod.mk.injEq] at H
             obtain ⟨rfl, rfl, rfl⟩ := H
             have p226 : 0 ≤ (0 : Int) := (by omega)
             have q226 : 0 < (l1.length : Int) := of_decide_eq_true (by first | (with_reducible assumption) | assumption)
             obtain ⟨ad226, e226, hx226_0⟩ := Kd.at_int HR1.out 0 p226 q226
             cases e226
             have qi226 : (0 < l1.length) = True := eq_true (by omega)
             (try rw [show ((0 : Int)).toNat = 0 from rfl] at hx226_0)
             (try rw [Addr.add_zero'] at hx226_0)
             replace hx226_0 := (HB.out.cell (World.block_lt_of_cell? w _ hx226_0)).trans hx226_0
             replace p226 := eq_true p226
             replace q226 := eq_true q226
             have p227 : 0 ≤ (1 : Int) := (by omega)
             have q227 : 1 < (l1.length : Int) := of_decide_eq_true (by first | (with_reducible assumption) | assumption)
             obtain ⟨ad227, e227, hx227_0⟩ := Kd.at_int HR1.out 1 p227 q227
             obtain rfl : ad226 = ad227 := (by injection e227)
             (try simp only [show (1 : Int).toNat = 1 from rfl, Nat.reduceMul, Nat.reduceEqDiff, Go.Addr.add, ↓reduceIte] at hx227_0)
             have qi227 : (1 < l1.length) = True := eq_true (by omega)
             (try rw [show ((1 : Int)).toNat = 1 from rfl] at hx227_0)
             replace hx227_0 := (HB.out.cell (World.block_lt_of_cell? w _ hx227_0)).trans hx227_0
             replace p227 := eq_true p227
             replace q227 := eq_true q227
             go_wp2
             go_ret3
             exact ⟨by first | rfl | (simp [errW_none, errW_some] <;> rfl) | (simp [*, errW_none, errW_some] <;> rfl), by repeat (first | (with_reducible first | exact HB.out | apply below_alloc | apply pw_below_drewN | apply below_drew1) | exact HB.out)⟩
            ·rw [if_neg c51] at H
             have c51b0 : ((rd l1 1) == 1) = false := beq_eq_false_iff_ne.mpr c51
             have c51b1 : ((rd l1 1) != 1) = true := bne_iff_ne.mpr c51
             have H' := Aside0.mk H
             clear H
             have p226 : 0 ≤ (0 : Int) := (by omega)
             have q226 : 0 < (l1.length : Int) := of_decide_eq_true (by first | (with_reducible assumption) | assumption)
             obtain ⟨ad226, e226, hx226_0⟩ := Kd.at_int HR1.out 0 p226 q226
             cases e226
             have qi226 : (0 < l1.length) = True := eq_true (by omega)
             (try rw [show ((0 : Int)).toNat = 0 from rfl] at hx226_0)
             (try rw [Addr.add_zero'] at hx226_0)
             replace hx226_0 := (HB.out.cell (World.block_lt_of_cell? w _ hx226_0)).trans hx226_0
             replace p226 := eq_true p226
             replace q226 := eq_true q226
             have p227 : 0 ≤ (1 : Int) := (by omega)
             have q227 : 1 < (l1.length : Int) := of_decide_eq_true (by first | (with_reducible assumption) | assumption)
             obtain ⟨ad227, e227, hx227_0⟩ := Kd.at_int HR1.out 1 p227 q227
             obtain rfl : ad226 = ad227 := (by injection e227)
             (try simp only [show (1 : Int).toNat = 1 from rfl, Nat.reduceMul, Nat.reduceEqDiff, Go.Addr.add, ↓reduceIte] at hx227_0)
             have qi227 : (1 < l1.length) = True := eq_true (by omega)
             (try rw [show ((1 : Int)).toNat = 1 from rfl] at hx227_0)
             replace hx227_0 := (HB.out.cell (World.block_lt_of_cell? w _ hx227_0)).trans hx227_0
             replace p227 := eq_true p227
             replace q227 := eq_true q227
             go_wp2
             go_meet
             case rel => exact ⟨_, H', ⟨by have := HJ3.out; first | omega | exact Nat.le_refl _⟩, ⟨by repeat (first | (with_reducible first | exact HB.out | apply below_alloc | apply pw_below_drewN | apply below_drew1) | exact HB.out)⟩⟩
           ·rw [if_neg c50] at H
            have c50b0 : ((rd l1 0) == 1) = false := beq_eq_false_iff_ne.mpr c50
            have c50b1 : ((rd l1 0) != 1) = true := bne_iff_ne.mpr c50
            have H' := Aside0.mk H
            clear H
            have p226 : 0 ≤ (0 : Int) := (by omega)
            have q226 : 0 < (l1.length : Int) := of_decide_eq_true (by first | (with_reducible assumption) | assumption)
            obtain ⟨ad226, e226, hx226_0⟩ := Kd.at_int HR1.out 0 p226 q226
            cases e226
            have qi226 : (0 < l1.length) = True := eq_true (by omega)
            (try rw [show ((0 : Int)).toNat = 0 from rfl] at hx226_0)
            (try rw [Addr.add_zero'] at hx226_0)
            replace hx226_0 := (HB.out.cell (World.block_lt_of_cell? w _ hx226_0)).trans hx226_0
            replace p226 := eq_true p226
            replace q226 := eq_true q226
            have p227 : 0 ≤ (1 : Int) := (by omega)
            have q227 : 1 < (l1.length : Int) := of_decide_eq_true (by first | (with_reducible assumption) | assumption)
            obtain ⟨ad227, e227, hx227_0⟩ := Kd.at_int HR1.out 1 p227 q227
            obtain rfl : ad226 = ad227 := (by injection e227)
            (try simp only [show (1 : Int).toNat = 1 from rfl, Nat.reduceMul, Nat.reduceEqDiff, Go.Addr.add, ↓reduceIte] at hx227_0)
            have qi227 : (1 < l1.length) = True := eq_true (by omega)
            (try rw [show ((1 : Int)).toNat = 1 from rfl] at hx227_0)
            replace hx227_0 := (HB.out.cell (World.block_lt_of_cell? w _ hx227_0)).trans hx227_0
            replace p227 := eq_true p227
            replace q227 := eq_true q227
            go_wp2
            go_meet
            case rel => exact ⟨_, H', ⟨by have := HJ3.out; first | omega | exact Nat.le_refl _⟩, ⟨by repeat (first | (with_reducible first | exact HB.out | apply below_alloc | apply pw_below_drewN | apply below_drew1) | exact HB.out)⟩⟩
          ·replace c49 := Bool.eq_false_iff.mpr c49
           subst c49
           have H1 : (computusref23_Find.j1 kj3 a0 l1) = some (r1, r2, r3) := by rw [if_neg (show ¬ (false = true) by decide)] at H; exact H
           clear H
           have H := H1
           clear H1
           have H' := Aside0.mk H
           clear H
           have p226 : 0 ≤ (0 : Int) := (by omega)
           have q226 : 0 < (l1.length : Int) := of_decide_eq_true (by first | (with_reducible assumption) | assumption)
           obtain ⟨ad226, e226, hx226_0⟩ := Kd.at_int HR1.out 0 p226 q226
           cases e226
           have qi226 : (0 < l1.length) = True := eq_true (by omega)
           (try rw [show ((0 : Int)).toNat = 0 from rfl] at hx226_0)
           (try rw [Addr.add_zero'] at hx226_0)
           replace hx226_0 := (HB.out.cell (World.block_lt_of_cell? w _ hx226_0)).trans hx226_0
           replace p226 := eq_true p226
           replace q226 := eq_true q226
           have p227 : 0 ≤ (1 : Int) := (by omega)
           have q227 : 1 < (l1.length : Int) := of_decide_eq_true (by first | (with_reducible assumption) | assumption)
           obtain ⟨ad227, e227, hx227_0⟩ := Kd.at_int HR1.out 1 p227 q227
           obtain rfl : ad226 = ad227 := (by injection e227)
           (try simp only [show (1 : Int).toNat = 1 from rfl, Nat.reduceMul, Nat.reduceEqDiff, Go.Addr.add, ↓reduceIte] at hx227_0)
           have qi227 : (1 < l1.length) = True := eq_true (by omega)
           (try rw [show ((1 : Int)).toNat = 1 from rfl] at hx227_0)
           replace hx227_0 := (HB.out.cell (World.block_lt_of_cell? w _ hx227_0)).trans hx227_0
           replace p227 := eq_true p227
           replace q227 := eq_true q227
           go_wp2
           go_meet
           case rel => exact ⟨_, H', ⟨by have := HJ3.out; first | omega | exact Nat.le_refl _⟩, ⟨by repeat (first | (with_reducible first | exact HB.out | apply below_alloc | apply pw_below_drewN | apply below_drew1) | exact HB.out)⟩⟩
      ·rw [if_neg c9] at H
       exact absurd H (by simp)
     ·rw [if_neg c8] at H
      exact absurd H (by simp)
    ·replace c7 := Bool.eq_false_iff.mpr c7
     subst c7
     have H1 : (computusref23_Find.j1 kj3 a0 l1) = some (r1, r2, r3) := by rw [if_neg (show ¬ (false = true) by decide)] at H; exact H
     clear H
     have H := H1
     clear H1
     have H' := Aside0.mk H
     clear H
     go_wp2
     go_meet
     case rel => exact ⟨_, H', ⟨by have := HJ3.out; first | omega | exact Nat.le_refl _⟩, ⟨by repeat (first | (with_reducible first | exact HB.out | apply below_alloc | apply pw_below_drewN | apply below_drew1) | exact HB.out)⟩⟩
   case rest =>
    clear HC6
    try clear c2
    try clear p2
    try clear q2
    try clear hx2
    try clear qi2
    try clear c3
    try clear c4
    try clear c5
    try clear c7
    try clear c8
    try clear c9
    try clear p22
    try clear q22
    try clear hx22
    try clear qi22
    try clear c25
    try clear c25b0
    try clear c25b1
    try clear c28
    try clear c28b0
    try clear c28b1
    try clear c37
    try clear c38
    try clear c38b0
    try clear c38b1
    try clear c39
    try clear c39b0
    try clear c39b1
    try clear c40
    try clear c40b0
    try clear c40b1
    try clear c41
    try clear c41b0
    try clear c42
    try clear c42b0
    try clear c43
    try clear c44
    try clear c44b0
    try clear c44b1
    try clear c45
    try clear c45b0
    try clear c45b1
    try clear c46
    try clear c47
    try clear c47b0
    try clear c47b1
    try clear c48
    try clear c48b0
    try clear c48b1
    try clear c49
    try clear c50
    try clear c50b0
    try clear c50b1
    try clear c51
    try clear c51b0
    try clear c51b1
    try clear hx226_0
    try clear hx227_0
    try clear p226
    try clear p227
    try clear q226
    try clear q227
    obtain ⟨kq, HA, HJ5, HB⟩ := hcut
    cases kq with
    | zero => exact absurd HA.out (by simp [computusref23_Find.j1])
    | succ kj5 =>
     have H := HA.out
     clear HA
     simp only [computusref23_Find.j1] at H
     replace H := Option.bind_eq_some_iff.mp H
     obtain ⟨t228, A520, H⟩ := H
     replace H : (computusref23_Find.l0 kj5 a0 l1 t228 0) = some (r1, r2, r3) := H
     have A52 := Aside0.mk A520
     clear A520
     have H' := Aside0.mk H
     clear H
     go_wp2_with (first | ((with_reducible refine gate_callee (f := 6) rfl ?_); refine goesL_ (some 70) rfl rfl Tryd.func6 (by kernel_rfl) rfl #[] rfl (by (try simp only [List.map_toArray, List.map_cons, List.map_nil]); first | done | rfl | (simp only [List.length_drop, List.length_take]; rfl)) ?_; (with_reducible refine (computusref23_Table.calls  t228 _ A52.out).mono ?_); rintro e w53 ⟨v229, rfl, ho0, hb⟩; refine ⟨_, rfl, ?_⟩; have n0_ := Aside0.mk (Kd.S_lower ho0 (below_size (by repeat (first | (with_reducible first | exact HB.out | apply below_alloc | apply pw_below_drewN | apply below_drew1) | exact HB.out)))); have n1_ := Aside0.mk (below_step (by repeat (first | (with_reducible first | exact HB.out | apply below_alloc | apply pw_below_drewN | apply below_drew1) | exact HB.out)) hb); clear HB; have HO230 := n0_; have HB := n1_; clear n0_ n1_; (try clear hb); (try clear hb2); (try clear hk); (try clear hi); (try clear ho0)))
     go_loopg [13] kj5 (fun kq v13 w' => ∃ (x13_3 : Int), v13 = .int .i64 x13_3 ∧ Aside0 (computusref23_Find.l0 kq a0 l1 t228 x13_3 = some (r1, r2, r3)) ∧ Aside0 (kq ≤ kj5) ∧ Aside0 (Kd.S k27 27 w' w.heap.size (fun _ => True) v229 t228) ∧ Aside0 (Below w.heap.size w w'))
     case atStart => exact ⟨(0), (by first | rfl | (simp; done) | (simp [*]; done)), H', ⟨Nat.le_refl _⟩, ⟨by (with_reducible repeat (first | apply Kd.S_alloc | apply Kd.S_drewN | apply Kd.S_drew)); exact HO230.out⟩, ⟨by repeat (first | (with_reducible first | exact HB.out | apply below_alloc | apply pw_below_drewN | apply below_drew1) | exact HB.out)⟩⟩
     case round =>
      clear H'
      try clear c2
      try clear p2
      try clear q2
      try clear hx2
      try clear qi2
      try clear c3
      try clear c4
      try clear c5
      try clear c6
      try clear c7
      try clear c8
      try clear c9
      try clear p22
      try clear q22
      try clear hx22
      try clear qi22
      try clear c25
      try clear c25b0
      try clear c25b1
      try clear c28
      try clear c28b0
      try clear c28b1
      try clear c37
      try clear c38
      try clear c38b0
      try clear c38b1
      try clear c39
      try clear c39b0
      try clear c39b1
      try clear c40
      try clear c40b0
      try clear c40b1
      try clear c41
      try clear c41b0
      try clear c42
      try clear c42b0
      try clear c43
      try clear c44
      try clear c44b0
      try clear c44b1
      try clear c45
      try clear c45b0
      try clear c45b1
      try clear c46
      try clear c47
      try clear c47b0
      try clear c47b1
      try clear c48
      try clear c48b0
      try clear c48b1
      try clear c49
      try clear c50
      try clear c50b0
      try clear c50b1
      try clear c51
      try clear c51b0
      try clear c51b1
      try clear hx226_0
      try clear hx227_0
      try clear p2
      try clear p22
      try clear p226
      try clear p227
      try clear q2
      try clear q22
      try clear q226
      try clear q227
      obtain ⟨x13_3, rfl, HA, HK3, HO_12, HB⟩ := hrel
      cases gk with
      | zero => exact absurd HA.out (by simp [computusref23_Find.l0])
      | succ k3 =>
       have H := HA.out
       clear HA
       simp only [computusref23_Find.l0] at H
       by_cases c54 : x13_3 < (t228.length : Int)
       ·rw [if_pos c54] at H
        have c54b0 : decide (x13_3 < (t228.length : Int)) = true := decide_eq_true c54
        clear c54
        by_cases c55 : 0 ≤ x13_3
        ·rw [if_pos c55] at H
         have c55b0 : decide (0 ≤ x13_3) = true := decide_eq_true c55
         clear c55
         by_cases c56 : ((rd_T27 t228 x13_3).f0).toList = a0.toList
         ·rw [if_pos c56] at H
          have c56b0 : (((rd_T27 t228 x13_3).f0).toList == a0.toList) = true := beq_iff_eq.mpr c56
          have c56b1 : (((rd_T27 t228 x13_3).f0).toList != a0.toList) = false := bne_eq_false_iff_eq.mpr c56
          clear c56
          replace H := Option.bind_eq_some_iff.mp H
          obtain ⟨t233, A570, H⟩ := H
          replace H : (if t233 = true then (some ((rd_T27 t228 x13_3).f2, (a0.toList == ([103, 101, 110, 101, 114, 97, 116, 101, 95, 115, 101, 114, 105, 101, 115] : List UInt8)), true)) else (computusref23_Find.l0 k3 a0 l1 t228 (wrap64 (x13_3 + 1)))) = some (r1, r2, r3) := H
          have A57 := Aside0.mk A570
          clear A570
          by_cases c58 : t233 = true
          ·subst c58
           have H1 : (some ((rd_T27 t228 x13_3).f2, (a0.toList == ([103, 101, 110, 101, 114, 97, 116, 101, 95, 115, 101, 114, 105, 101, 115] : List UInt8)), true)) = some (r1, r2, r3) := by rw [if_pos rfl] at H; exact H
           clear H
           have H := H1
           clear H1
           simp only [Option.some.injEq, Prod.mk.injEq] at H
           obtain ⟨rfl, rfl, rfl⟩ := H
           obtain ⟨Ao59, co59, eo59⟩ := Kd.S_slice HO_12.out
           subst eo59
           have p231 : 0 ≤ (x13_3 : Int) := of_decide_eq_true (by first | (with_reducible assumption) | assumption)
           have q231 : x13_3 < (t228.length : Int) := of_decide_eq_true (by first | (with_reducible assumption) | assumption)
           obtain ⟨ad231, A231_1, c231_1, e231, hx231_0, hx231_1, hx231_2, hl231_1, hi231_1⟩ := at_T27 (Kd.S_reads' HO_12.out).2.2 x13_3 p231 q231
           cases e231
           obtain ⟨ce231, hce231, hMe231, hcc231⟩ := Kd.S_get HO_12.out z27 x13_3 p231 (by first | exact q231 | exact of_decide_eq_true (by first | (with_reducible assumption) | assumption) | (have e_ := (Kd.S_reads' HO_12.out).1; omega))
           obtain ⟨ve231_1, rfl, ge231_1⟩ := k27_openM hMe231
           have hv231_1 := hcc231 1 _ rfl
           rw [add_field _ _ 1 (by omega)] at hv231_1
           replace hv231_1 := Option.some.inj (hv231_1.symm.trans hx231_1)
           rw [hv231_1] at ge231_1
           have HL231_1 := Aside0.mk (show Kd.R (Kd.int .i64) 3 _ _ _ _ ((rd_T27 t228 x13_3).f1) from ge231_1)
           clear hv231_1 ge231_1
           clear hcc231 hce231
           have HR231_1 := Aside0.mk hi231_1
           have HC231_1 := Aside0.mk hl231_1
           clear hi231_1 hl231_1
           replace p231 := eq_true p231
           replace q231 := eq_true q231
           have p232 : 0 ≤ (x13_3 : Int) := of_decide_eq_true (by first | (with_reducible assumption) | assumption)
           have q232 : x13_3 < (t228.length : Int) := of_decide_eq_true (by first | (with_reducible assumption) | assumption)
           obtain ⟨ad232, A232_1, c232_1, e232, hx232_0, hx232_1, hx232_2, hl232_1, hi232_1⟩ := at_T27 (Kd.S_reads' HO_12.out).2.2 x13_3 p232 q232
           obtain rfl : ad231 = ad232 := (by injection e232)
           obtain ⟨ce232, hce232, hMe232, hcc232⟩ := Kd.S_get HO_12.out z27 x13_3 p232 (by first | exact q232 | exact of_decide_eq_true (by first | (with_reducible assumption) | assumption) | (have e_ := (Kd.S_reads' HO_12.out).1; omega))
           obtain ⟨ve232_1, rfl, ge232_1⟩ := k27_openM hMe232
           have hv232_1 := hcc232 1 _ rfl
           rw [add_field _ _ 1 (by omega)] at hv232_1
           replace hv232_1 := Option.some.inj (hv232_1.symm.trans hx232_1)
           rw [hv232_1] at ge232_1
           have HL232_1 := Aside0.mk (show Kd.R (Kd.int .i64) 3 _ _ _ _ ((rd_T27 t228 x13_3).f1) from ge232_1)
           clear hv232_1 ge232_1
           clear hcc232 hce232
           have HR232_1 := Aside0.mk hi232_1
           have HC232_1 := Aside0.mk hl232_1
           clear hi232_1 hl232_1
           replace p232 := eq_true p232
           replace q232 := eq_true q232
           have ea_ := Option.some.inj (hx231_1.symm.trans hx232_1)
           injection ea_ with ea_ en_ ec_
           subst ea_
           subst ec_
           clear en_
           go_wp2_with (first | (go_at_call 27; (with_reducible refine (computusref23_same.calls k3 _ _ ((rd_T27 t228 x13_3).f1) _ _ l1 true _ ?side1 ?side2 ?side3 ?side4 A57.out).mono ?_); (case side1 => repeat (first | exact (by repeat (first | (with_reducible exact HR232_1.out) | (with_reducible refine Kd.C_alloc ?_ _) | (with_reducible refine Kd.C_drewN ?_ _) | (with_reducible refine Kd.C_drew ?_) | exact HR232_1.out)) | (with_reducible refine Kd.C_alloc ?_ _) | (with_reducible refine Kd.C_drewN ?_ _) | (with_reducible refine Kd.C_drew ?_))); (case side2 => exact HC232_1.out); (case side3 => repeat (first | exact (Kd.C_below HR1.out HB.out) | (with_reducible refine Kd.C_alloc ?_ _) | (with_reducible refine Kd.C_drewN ?_ _) | (with_reducible refine Kd.C_drew ?_))); (case side4 => exact HC1.out); rintro e w' ⟨rfl, ⟨nd, rfl⟩⟩; have p234 : 0 ≤ (x13_3 : Int) := of_decide_eq_true (by first | (with_reducible assumption) | assumption); have q234 : x13_3 < (t228.length : Int) := of_decide_eq_true (by first | (with_reducible assumption) | assumption); obtain ⟨ad234, A234_1, c234_1, e234, hx234_0, hx234_1, hx234_2, hl234_1, hi234_1⟩ := at_T27 (Kd.S_reads' HO_12.out).2.2 x13_3 p234 q234; obtain rfl : ad231 = ad234 := (by injection e234); obtain ⟨ce234, hce234, hMe234, hcc234⟩ := Kd.S_get HO_12.out z27 x13_3 p234 (by first | exact q234 | exact of_decide_eq_true (by first | (with_reducible assumption) | assumption) | (have e_ := (Kd.S_reads' HO_12.out).1; omega)); obtain ⟨ve234_1, rfl, ge234_1⟩ := k27_openM hMe234; have hv234_1 := hcc234 1 _ rfl; rw [add_field _ _ 1 (by omega)] at hv234_1; replace hv234_1 := Option.some.inj (hv234_1.symm.trans hx234_1); rw [hv234_1] at ge234_1; have HL234_1 := Aside0.mk (show Kd.R (Kd.int .i64) 3 _ _ _ _ ((rd_T27 t228 x13_3).f1) from ge234_1); clear hv234_1 ge234_1; clear hcc234 hce234; have HR234_1 := Aside0.mk hi234_1; have HC234_1 := Aside0.mk hl234_1; clear hi234_1 hl234_1; replace p234 := eq_true p234; replace q234 := eq_true q234; have ea_ := Option.some.inj (hx231_1.symm.trans hx234_1); injection ea_ with ea_ en_ ec_; subst ea_; subst ec_; clear en_))
           go_ret3
           exact ⟨by first | rfl | (simp [errW_none, errW_some] <;> rfl) | (simp [*, errW_none, errW_some] <;> rfl), by repeat (first | (with_reducible first | exact HB.out | apply below_alloc | apply pw_below_drewN | apply below_drew1) | exact HB.out)⟩
          ·replace c58 := Bool.eq_false_iff.mpr c58
           subst c58
           have H1 : (computusref23_Find.l0 k3 a0 l1 t228 (wrap64 (x13_3 + 1))) = some (r1, r2, r3) := by rw [if_neg (show ¬ (false = true) by decide)] at H; exact H
           clear H
           have H := H1
           clear H1
           have H' := Aside0.mk H
           clear H
           obtain ⟨Ao60, co60, eo60⟩ := Kd.S_slice HO_12.out
           subst eo60
           have p231 : 0 ≤ (x13_3 : Int) := of_decide_eq_true (by first | (with_reducible assumption) | assumption)
           have q231 : x13_3 < (t228.length : Int) := of_decide_eq_true (by first | (with_reducible assumption) | assumption)
           obtain ⟨ad231, A231_1, c231_1, e231, hx231_0, hx231_1, hx231_2, hl231_1, hi231_1⟩ := at_T27 (Kd.S_reads' HO_12.out).2.2 x13_3 p231 q231
           cases e231
           obtain ⟨ce231, hce231, hMe231, hcc231⟩ := Kd.S_get HO_12.out z27 x13_3 p231 (by first | exact q231 | exact of_decide_eq_true (by first | (with_reducible assumption) | assumption) | (have e_ := (Kd.S_reads' HO_12.out).1; omega))
           obtain ⟨ve231_1, rfl, ge231_1⟩ := k27_openM hMe231
           have hv231_1 := hcc231 1 _ rfl
           rw [add_field _ _ 1 (by omega)] at hv231_1
           replace hv231_1 := Option.some.inj (hv231_1.symm.trans hx231_1)
           rw [hv231_1] at ge231_1
           have HL231_1 := Aside0.mk (show Kd.R (Kd.int .i64) 3 _ _ _ _ ((rd_T27 t228 x13_3).f1) from ge231_1)
           clear hv231_1 ge231_1
           clear hcc231 hce231
           have HR231_1 := Aside0.mk hi231_1
           have HC231_1 := Aside0.mk hl231_1
           clear hi231_1 hl231_1
           replace p231 := eq_true p231
           replace q231 := eq_true q231
           have p232 : 0 ≤ (x13_3 : Int) := of_decide_eq_true (by first | (with_reducible assumption) | assumption)
           have q232 : x13_3 < (t228.length : Int) := of_decide_eq_true (by first | (with_reducible assumption) | assumption)
           obtain ⟨ad232, A232_1, c232_1, e232, hx232_0, hx232_1, hx232_2, hl232_1, hi232_1⟩ := at_T27 (Kd.S_reads' HO_12.out).2.2 x13_3 p232 q232
           obtain rfl : ad231 = ad232 := (by injection e232)
           obtain ⟨ce232, hce232, hMe232, hcc232⟩ := Kd.S_get HO_12.out z27 x13_3 p232 (by first | exact q232 | exact of_decide_eq_true (by first | (with_reducible assumption) | assumption) | (have e_ := (Kd.S_reads' HO_12.out).1; omega))
           obtain ⟨ve232_1, rfl, ge232_1⟩ := k27_openM hMe232
           have hv232_1 := hcc232 1 _ rfl
           rw [add_field _ _ 1 (by omega)] at hv232_1
           replace hv232_1 := Option.some.inj (hv232_1.symm.trans hx232_1)
           rw [hv232_1] at ge232_1
           have HL232_1 := Aside0.mk (show Kd.R (Kd.int .i64) 3 _ _ _ _ ((rd_T27 t228 x13_3).f1) from ge232_1)
           clear hv232_1 ge232_1
           clear hcc232 hce232
           have HR232_1 := Aside0.mk hi232_1
           have HC232_1 := Aside0.mk hl232_1
           clear hi232_1 hl232_1
           replace p232 := eq_true p232
           replace q232 := eq_true q232
           have ea_ := Option.some.inj (hx231_1.symm.trans hx232_1)
           injection ea_ with ea_ en_ ec_
           subst ea_
           subst ec_
           clear en_
           go_wp2_with (first | (go_at_call 27; (with_reducible refine (computusref23_same.calls k3 _ _ ((rd_T27 t228 x13_3).f1) _ _ l1 false _ ?side1 ?side2 ?side3 ?side4 A57.out).mono ?_); (case side1 => repeat (first | exact (by repeat (first | (with_reducible exact HR232_1.out) | (with_reducible refine Kd.C_alloc ?_ _) | (with_reducible refine Kd.C_drewN ?_ _) | (with_reducible refine Kd.C_drew ?_) | exact HR232_1.out)) | (with_reducible refine Kd.C_alloc ?_ _) | (with_reducible refine Kd.C_drewN ?_ _) | (with_reducible refine Kd.C_drew ?_))); (case side2 => exact HC232_1.out); (case side3 => repeat (first | exact (Kd.C_below HR1.out HB.out) | (with_reducible refine Kd.C_alloc ?_ _) | (with_reducible refine Kd.C_drewN ?_ _) | (with_reducible refine Kd.C_drew ?_))); (case side4 => exact HC1.out); rintro e w' ⟨rfl, ⟨nd, rfl⟩⟩))
           go_roundg k3
           case measure => have := HJ3.out; have := HJ5.out; have := HK3.out; omega
           case rel => exact ⟨(wrap64 (x13_3 + 1)), (by first | rfl | (simp; done) | (simp [*]; done)), H', ⟨by have := HJ3.out; have := HJ5.out; have := HK3.out; omega⟩, ⟨by (with_reducible repeat (first | apply Kd.S_alloc | apply Kd.S_drewN | apply Kd.S_drew)); exact HO_12.out⟩, ⟨by repeat (first | (with_reducible first | exact HB.out | apply below_alloc | apply pw_below_drewN | apply below_drew1) | exact HB.out)⟩⟩
         ·rw [if_neg c56] at H
          have c56b0 : (((rd_T27 t228 x13_3).f0).toList == a0.toList) = false := beq_eq_false_iff_ne.mpr c56
          have c56b1 : (((rd_T27 t228 x13_3).f0).toList != a0.toList) = true := bne_iff_ne.mpr c56
          have H' := Aside0.mk H
          clear H
          obtain ⟨Ao61, co61, eo61⟩ := Kd.S_slice HO_12.out
          subst eo61
          have p231 : 0 ≤ (x13_3 : Int) := of_decide_eq_true (by first | (with_reducible assumption) | assumption)
          have q231 : x13_3 < (t228.length : Int) := of_decide_eq_true (by first | (with_reducible assumption) | assumption)
          obtain ⟨ad231, A231_1, c231_1, e231, hx231_0, hx231_1, hx231_2, hl231_1, hi231_1⟩ := at_T27 (Kd.S_reads' HO_12.out).2.2 x13_3 p231 q231
          cases e231
          obtain ⟨ce231, hce231, hMe231, hcc231⟩ := Kd.S_get HO_12.out z27 x13_3 p231 (by first | exact q231 | exact of_decide_eq_true (by first | (with_reducible assumption) | assumption) | (have e_ := (Kd.S_reads' HO_12.out).1; omega))
          obtain ⟨ve231_1, rfl, ge231_1⟩ := k27_openM hMe231
          have hv231_1 := hcc231 1 _ rfl
          rw [add_field _ _ 1 (by omega)] at hv231_1
          replace hv231_1 := Option.some.inj (hv231_1.symm.trans hx231_1)
          rw [hv231_1] at ge231_1
          have HL231_1 := Aside0.mk (show Kd.R (Kd.int .i64) 3 _ _ _ _ ((rd_T27 t228 x13_3).f1) from ge231_1)
          clear hv231_1 ge231_1
          clear hcc231 hce231
          have HR231_1 := Aside0.mk hi231_1
          have HC231_1 := Aside0.mk hl231_1
          clear hi231_1 hl231_1
          replace p231 := eq_true p231
          replace q231 := eq_true q231
          go_wp2
          go_roundg k3
          case measure => have := HJ3.out; have := HJ5.out; have := HK3.out; omega
          case rel => exact ⟨(wrap64 (x13_3 + 1)), (by first | rfl | (simp; done) | (simp [*]; done)), H', ⟨by have := HJ3.out; have := HJ5.out; have := HK3.out; omega⟩, ⟨by (with_reducible repeat (first | apply Kd.S_alloc | apply Kd.S_drewN | apply Kd.S_drew)); exact HO_12.out⟩, ⟨by repeat (first | (with_reducible first | exact HB.out | apply below_alloc | apply pw_below_drewN | apply below_drew1) | exact HB.out)⟩⟩
        ·rw [if_neg c55] at H
         exact absurd H (by simp)
       ·rw [if_neg c54] at H
        have c54b0 : decide (x13_3 < (t228.length : Int)) = false := decide_eq_false c54
        clear c54
        simp only [Option.some.injEq, Prod.mk.injEq] at H
        obtain ⟨rfl, rfl, rfl⟩ := H
        obtain ⟨Ao62, co62, eo62⟩ := Kd.S_slice HO_12.out
        subst eo62
        go_wp2
        go_ret3
        exact ⟨by first | rfl | (simp [errW_none, errW_some] <;> rfl) | (simp [*, errW_none, errW_some] <;> rfl), by repeat (first | (with_reducible first | exact HB.out | apply below_alloc | apply pw_below_drewN | apply below_drew1) | exact HB.out)⟩
def computusref23_Ops.l0 : Nat → List ByteArray → List (S27) → Int → Option (List ByteArray)
 | 0, _, _, _ => none
 | k + 1, x1, x2, x3 => if x3 < (x2.length : Int) then (if (x1.length : Int) = 0 then (if 0 ≤ x3 then (if x1.length < 8796093022208 then (computusref23_Ops.l0 k (x1 ++ [(rd_T27 x2 x3).f0]) x2 (wrap64 (x3 + 1))) else (none)) else (none)) else (if 0 ≤ (wrap64 ((x1.length : Int) - 1)) then (if (wrap64 ((x1.length : Int) - 1)) < (x1.length : Int) then (if 0 ≤ x3 then (if (rdOf ByteArray.empty x1 (wrap64 ((x1.length : Int) - 1))).toList = ((rd_T27 x2 x3).f0).toList then (computusref23_Ops.l0 k x1 x2 (wrap64 (x3 + 1))) else (if x1.length < 8796093022208 then (computusref23_Ops.l0 k (x1 ++ [(rd_T27 x2 x3).f0]) x2 (wrap64 (x3 + 1))) else (none))) else (none)) else (none)) else (none))) else ((some (([(⟨#[61]⟩ : ByteArray), (⟨#[60, 62]⟩ : ByteArray), (⟨#[60]⟩ : ByteArray), (⟨#[60, 61]⟩ : ByteArray), (⟨#[62]⟩ : ByteArray), (⟨#[62, 61]⟩ : ByteArray)] : List ByteArray) : List ByteArray)).bind fun y264 => (if x1.length + y264.length < 8796093022208 then (some (x1 ++ y264)) else (none)))
def computusref23_Ops.f (k : Nat)  : Option (List ByteArray) := (computusref23_Table.f).bind fun t251 => (computusref23_Ops.l0 k ([] : List ByteArray) t251 0)
theorem computusref23_Ops.mono_l : ∀ k, (∀ y0 y1 y2, LeO (computusref23_Ops.l0 k y0 y1 y2) (computusref23_Ops.l0 (k + 1) y0 y1 y2))
 | 0 => fun _ _ _ r h => by simp [computusref23_Ops.l0] at h
 | k + 1 => by
  have ih0 := computusref23_Ops.mono_l k
  ·intro y0 y1 y2
   unfold computusref23_Ops.l0
   repeat' first
   | (with_reducible exact ih0 _ _ _)
   | (with_reducible exact LeO.refl _)
   | (with_reducible exact LeO.none _)
   | (with_reducible refine LeO.ite ?_ ?_)
   | (with_reducible refine LeO.bind ?_ (fun _ => ?_))
   | exact ih0 _ _ _
   | exact LeO.none _
   | refine LeO.ite ?_ ?_
   | refine LeO.bind ?_ (fun _ => ?_)
theorem computusref23_Ops.mono : ∀ k, LeO (computusref23_Ops.f k ) (computusref23_Ops.f (k + 1) ) := by
 intro  k
 have ih0 := computusref23_Ops.mono_l k
 unfold computusref23_Ops.f
 repeat' first
   | (with_reducible exact ih0 _ _ _)
   | (with_reducible exact LeO.refl _)
   | (with_reducible exact LeO.none _)
   | (with_reducible refine LeO.ite ?_ ?_)
   | (with_reducible refine LeO.bind ?_ (fun _ => ?_))
   | exact ih0 _ _ _
   | exact LeO.none _
   | refine LeO.ite ?_ ?_
   | refine LeO.bind ?_ (fun _ => ?_)
set_option maxHeartbeats 8000000 in
set_option maxRecDepth 100000 in
theorem computusref23_Ops.calls (k : Nat)  (r : List ByteArray) (w : World) (h : computusref23_Ops.f k  = some r) :
  Calls Tryd.prog 16 #[] w fun e w' => ∃ v0_ : Value, e = .returned (v0_) ∧ Kd.R Kd.string 9 w' w.heap.size (fun _ => True) v0_ r ∧ Below w.heap.size w w' := by
 have HB := Aside0.mk (Below.refl w.heap.size w)
 have H : ((computusref23_Table.f).bind fun t251 => (computusref23_Ops.l0 k ([] : List ByteArray) t251 0)) = some r := h
 clear h
 replace H := Option.bind_eq_some_iff.mp H
 obtain ⟨t251, A10, H⟩ := H
 replace H : (computusref23_Ops.l0 k ([] : List ByteArray) t251 0) = some r := H
 have A1 := Aside0.mk A10
 clear A10
 have H' := Aside0.mk H
 clear H
 go_enter Tryd.func16, Tryd.ntmps16
 go_wp2_with (first | (go_at_call 6; (with_reducible refine (computusref23_Table.calls  t251 _ A1.out).mono ?_); rintro e w2 ⟨v252, rfl, ho0, hb⟩; have n0_ := Aside0.mk (Kd.S_lower ho0 (below_size (by repeat (first | (with_reducible first | exact HB.out | apply below_alloc | apply pw_below_drewN | apply below_drew1) | exact HB.out)))); have n1_ := Aside0.mk (below_step (by repeat (first | (with_reducible first | exact HB.out | apply below_alloc | apply pw_below_drewN | apply below_drew1) | exact HB.out)) hb); clear HB; have HO253 := n0_; have HB := n1_; clear n0_ n1_; (try clear hb); (try clear hb2); (try clear hk); (try clear hi); (try clear ho0)))
 repeat (go_quiet (first | (go_at_call 6; (with_reducible refine (computusref23_Table.calls  t251 _ A1.out).mono ?_); rintro e w2 ⟨v252, rfl, ho0, hb⟩; have n0_ := Aside0.mk (Kd.S_lower ho0 (below_size (by repeat (first | (with_reducible first | exact HB.out | apply below_alloc | apply pw_below_drewN | apply below_drew1) | exact HB.out)))); have n1_ := Aside0.mk (below_step (by repeat (first | (with_reducible first | exact HB.out | apply below_alloc | apply pw_below_drewN | apply below_drew1) | exact HB.out)) hb); clear HB; have HO253 := n0_; have HB := n1_; clear n0_ n1_; (try clear hb); (try clear hb2); (try clear hk); (try clear hi); (try clear ho0))); try go_wp2_with (first | (go_at_call 6; (with_reducible refine (computusref23_Table.calls  t251 _ A1.out).mono ?_); rintro e w2 ⟨v252, rfl, ho0, hb⟩; have n0_ := Aside0.mk (Kd.S_lower ho0 (below_size (by repeat (first | (with_reducible first | exact HB.out | apply below_alloc | apply pw_below_drewN | apply below_drew1) | exact HB.out)))); have n1_ := Aside0.mk (below_step (by repeat (first | (with_reducible first | exact HB.out | apply below_alloc | apply pw_below_drewN | apply below_drew1) | exact HB.out)) hb); clear HB; have HO253 := n0_; have HB := n1_; clear n0_ n1_; (try clear hb); (try clear hb2); (try clear hk); (try clear hi); (try clear ho0))))
 go_loopg [1, 3] k (fun kq v1 v3 w' => ∃ (x1_1 : List ByteArray) (x3_1 : Int), v3 = .int .i64 x3_1 ∧ Aside0 (computusref23_Ops.l0 kq x1_1 t251 x3_1 = some r) ∧ Aside0 (kq ≤ k) ∧ Aside0 (Kd.R Kd.string 9 w' w.heap.size (fun _ => True) v1 x1_1) ∧ Aside0 (Kd.S k27 27 w' w.heap.size (fun _ => True) v252 t251) ∧ Aside0 (Below w.heap.size w w'))
 case atStart => exact ⟨(([] : List ByteArray)), (0), (by first | rfl | (simp; done) | (simp [*]; done)), H', ⟨Nat.le_refl _⟩, ⟨by first | exact Kd.R_nil _ _ _ _ _ | exact Kd.N_nil _ _ _ _ _ | exact Kd.V_nil _ _ _ _ _ | exact Kd.Q_nil _ _ _ _ _ | exact Kd.S_nil _ _ _ _ _⟩, ⟨by (with_reducible repeat (first | apply Kd.S_alloc | apply Kd.S_drewN | apply Kd.S_drew)); exact HO253.out⟩, ⟨by repeat (first | (with_reducible first | exact HB.out | apply below_alloc | apply pw_below_drewN | apply below_drew1) | exact HB.out)⟩⟩
 case round =>
  clear H'
  try clear c1
  try clear p2
  obtain ⟨x1_1, x3_1, rfl, HA, HK1, HO_1, HO_2, HB⟩ := hrel
  cases gk with
  | zero => exact absurd HA.out (by simp [computusref23_Ops.l0])
  | succ k1 =>
   have H := HA.out
   clear HA
   simp only [computusref23_Ops.l0] at H
   by_cases c3 : x3_1 < (t251.length : Int)
   ·rw [if_pos c3] at H
    have c3b0 : decide (x3_1 < (t251.length : Int)) = true := decide_eq_true c3
    clear c3
    by_cases c4 : (x1_1.length : Int) = 0
    ·rw [if_pos c4] at H
     have c4b0 : ((x1_1.length : Int) == 0) = true := beq_iff_eq.mpr c4
     have c4b1 : ((x1_1.length : Int) != 0) = false := bne_eq_false_iff_eq.mpr c4
     clear c4
     by_cases c5 : 0 ≤ x3_1
     ·rw [if_pos c5] at H
      have c5b0 : decide (0 ≤ x3_1) = true := decide_eq_true c5
      clear c5
      by_cases c6 : x1_1.length < 8796093022208
      ·rw [if_pos c6] at H
       have LMc6 := Aside0.mk c6
       clear c6
       obtain ⟨y255, hy255⟩ : ∃ y_ : List ByteArray, y_ = (x1_1 ++ [(rd_T27 t251 x3_1).f0]) := ⟨_, rfl⟩
       replace H : (computusref23_Ops.l0 k1 y255 t251 (wrap64 (x3_1 + 1))) = some r := by first | (rw [hy255]; with_reducible exact H) | (have H2_ := (Option.bind_some _ _).symm.trans H; rw [hy255]; with_reducible exact H2_) | (have H2_ := (Option.bind_some _ _).symm.trans H; with_reducible exact H2_) | with_reducible exact H | (rw [hy255]; exact H) | exact H
       have Ny255 := Aside0.mk hy255
       clear hy255
       have H' := Aside0.mk H
       clear H
       obtain ⟨Ao7, co7, eo7⟩ := Kd.S_slice HO_2.out
       subst eo7
       obtain ⟨Ao8, co8, eo8⟩ := Kd.R_slice HO_1.out
       subst eo8
       have p254 : 0 ≤ (x3_1 : Int) := of_decide_eq_true (by first | (with_reducible assumption) | assumption)
       have q254 : x3_1 < (t251.length : Int) := of_decide_eq_true (by first | (with_reducible assumption) | assumption)
       obtain ⟨ad254, A254_1, c254_1, e254, hx254_0, hx254_1, hx254_2, hl254_1, hi254_1⟩ := at_T27 (Kd.S_reads' HO_2.out).2.2 x3_1 p254 q254
       cases e254
       obtain ⟨ce254, hce254, hMe254, hcc254⟩ := Kd.S_get HO_2.out z27 x3_1 p254 (by first | exact q254 | exact of_decide_eq_true (by first | (with_reducible assumption) | assumption) | (have e_ := (Kd.S_reads' HO_2.out).1; omega))
       obtain ⟨ve254_1, rfl, ge254_1⟩ := k27_openM hMe254
       have hv254_1 := hcc254 1 _ rfl
       rw [add_field _ _ 1 (by omega)] at hv254_1
       replace hv254_1 := Option.some.inj (hv254_1.symm.trans hx254_1)
       rw [hv254_1] at ge254_1
       have HL254_1 := Aside0.mk (show Kd.R (Kd.int .i64) 3 _ _ _ _ ((rd_T27 t251 x3_1).f1) from ge254_1)
       clear hv254_1 ge254_1
       clear hcc254 hce254
       have HR254_1 := Aside0.mk hi254_1
       have HC254_1 := Aside0.mk hl254_1
       clear hi254_1 hl254_1
       replace p254 := eq_true p254
       replace q254 := eq_true q254
       go_wp2_with (first | ((with_reducible refine gate_builtin (b := .append) (xs := #[.tmp 28, .tmp 34]) rfl ?_); (try (refine gate_guard (by rfl) ?_; dsimp only)); at_builtin; refine Kd.R_append Kd.string (w0 := w) w.heap.size rfl (.tmp 28) (.tmp 34) 37 9 (.string ⟨#[]⟩) 16 rfl Tryd.underlying37 info9 rfl (by decide) (by omega) (.slice Ao8 x1_1.length co8) x1_1 ((rd_T27 t251 x3_1).f0) [.string ((rd_T27 t251 x3_1).f0)] (fun _ => True) (fun _ => False) rfl rfl ?aP (fun _ hk => hk.elim) ?aF ?aO ?aB ?aS ?aL ?_; (case aP => exact rfl); (case aB => exact (by repeat (first | (with_reducible first | exact HB.out | apply below_alloc | apply pw_below_drewN | apply below_drew1) | exact HB.out))); (case aF => exact (fun _ _ => trivial)); (case aO => exact (by (with_reducible repeat (first | apply Kd.R_alloc | apply Kd.R_drewN | apply Kd.R_drew)); exact HO_1.out)); (case aS => exact (below_size (by repeat (first | (with_reducible first | exact HB.out | apply below_alloc | apply pw_below_drewN | apply below_drew1) | exact HB.out)))); (case aL => have := LMc6.out; omega); intro v256 w9 ho hb hg hat; rw [← Ny255.out] at ho; have n0_ := Aside0.mk (Kd.S_over' (by (with_reducible repeat (first | apply Kd.S_alloc | apply Kd.S_drewN | apply Kd.S_drew)); exact HO_2.out) (Kd.R_typed (by (with_reducible repeat (first | apply Kd.R_alloc | apply Kd.R_drewN | apply Kd.R_drew)); exact HO_1.out)) (by decide) hg); have n1_ := Aside0.mk (Kd.R_over' (by (with_reducible repeat (first | apply Kd.R_alloc | apply Kd.R_drewN | apply Kd.R_drew)); exact HL254_1.out) (Kd.R_typed (by (with_reducible repeat (first | apply Kd.R_alloc | apply Kd.R_drewN | apply Kd.R_drew)); exact HO_1.out)) (by decide) hg); have n2_ := Aside0.mk (hb); have n3_ := Aside0.mk (ho); clear HO_2; clear HL254_1; clear HB; clear HO_1; have HO_2 := n0_; have HL254_1 := n1_; have HB := n2_; have HO257 := n3_; clear n0_ n1_ n2_ n3_; clear ho hb hg hat))
       repeat (go_quiet (first | ((with_reducible refine gate_builtin (b := .append) (xs := #[.tmp 28, .tmp 34]) rfl ?_); (try (refine gate_guard (by rfl) ?_; dsimp only)); at_builtin; refine Kd.R_append Kd.string (w0 := w) w.heap.size rfl (.tmp 28) (.tmp 34) 37 9 (.string ⟨#[]⟩) 16 rfl Tryd.underlying37 info9 rfl (by decide) (by omega) (.slice Ao8 x1_1.length co8) x1_1 ((rd_T27 t251 x3_1).f0) [.string ((rd_T27 t251 x3_1).f0)] (fun _ => True) (fun _ => False) rfl rfl ?aP (fun _ hk => hk.elim) ?aF ?aO ?aB ?aS ?aL ?_; (case aP => exact rfl); (case aB => exact (by repeat (first | (with_reducible first | exact HB.out | apply below_alloc | apply pw_below_drewN | apply below_drew1) | exact HB.out))); (case aF => exact (fun _ _ => trivial)); (case aO => exact (by (with_reducible repeat (first | apply Kd.R_alloc | apply Kd.R_drewN | apply Kd.R_drew)); exact HO_1.out)); (case aS => exact (below_size (by repeat (first | (with_reducible first | exact HB.out | apply below_alloc | apply pw_below_drewN | apply below_drew1) | exact HB.out)))); (case aL => have := LMc6.out; omega); intro v256 w9 ho hb hg hat; rw [← Ny255.out] at ho; have n0_ := Aside0.mk (Kd.S_over' (by (with_reducible repeat (first | apply Kd.S_alloc | apply Kd.S_drewN | apply Kd.S_drew)); exact HO_2.out) (Kd.R_typed (by (with_reducible repeat (first | apply Kd.R_alloc | apply Kd.R_drewN | apply Kd.R_drew)); exact HO_1.out)) (by decide) hg); have n1_ := Aside0.mk (Kd.R_over' (by (with_reducible repeat (first | apply Kd.R_alloc | apply Kd.R_drewN | apply Kd.R_drew)); exact HL254_1.out) (Kd.R_typed (by (with_reducible repeat (first | apply Kd.R_alloc | apply Kd.R_drewN | apply Kd.R_drew)); exact HO_1.out)) (by decide) hg); have n2_ := Aside0.mk (hb); have n3_ := Aside0.mk (ho); clear HO_2; clear HL254_1; clear HB; clear HO_1; have HO_2 := n0_; have HL254_1 := n1_; have HB := n2_; have HO257 := n3_; clear n0_ n1_ n2_ n3_; clear ho hb hg hat)); try go_wp2_with (first | ((with_reducible refine gate_builtin (b := .append) (xs := #[.tmp 28, .tmp 34]) rfl ?_); (try (refine gate_guard (by rfl) ?_; dsimp only)); at_builtin; refine Kd.R_append Kd.string (w0 := w) w.heap.size rfl (.tmp 28) (.tmp 34) 37 9 (.string ⟨#[]⟩) 16 rfl Tryd.underlying37 info9 rfl (by decide) (by omega) (.slice Ao8 x1_1.length co8) x1_1 ((rd_T27 t251 x3_1).f0) [.string ((rd_T27 t251 x3_1).f0)] (fun _ => True) (fun _ => False) rfl rfl ?aP (fun _ hk => hk.elim) ?aF ?aO ?aB ?aS ?aL ?_; (case aP => exact rfl); (case aB => exact (by repeat (first | (with_reducible first | exact HB.out | apply below_alloc | apply pw_below_drewN | apply below_drew1) | exact HB.out))); (case aF => exact (fun _ _ => trivial)); (case aO => exact (by (with_reducible repeat (first | apply Kd.R_alloc | apply Kd.R_drewN | apply Kd.R_drew)); exact HO_1.out)); (case aS => exact (below_size (by repeat (first | (with_reducible first | exact HB.out | apply below_alloc | apply pw_below_drewN | apply below_drew1) | exact HB.out)))); (case aL => have := LMc6.out; omega); intro v256 w9 ho hb hg hat; rw [← Ny255.out] at ho; have n0_ := Aside0.mk (Kd.S_over' (by (with_reducible repeat (first | apply Kd.S_alloc | apply Kd.S_drewN | apply Kd.S_drew)); exact HO_2.out) (Kd.R_typed (by (with_reducible repeat (first | apply Kd.R_alloc | apply Kd.R_drewN | apply Kd.R_drew)); exact HO_1.out)) (by decide) hg); have n1_ := Aside0.mk (Kd.R_over' (by (with_reducible repeat (first | apply Kd.R_alloc | apply Kd.R_drewN | apply Kd.R_drew)); exact HL254_1.out) (Kd.R_typed (by (with_reducible repeat (first | apply Kd.R_alloc | apply Kd.R_drewN | apply Kd.R_drew)); exact HO_1.out)) (by decide) hg); have n2_ := Aside0.mk (hb); have n3_ := Aside0.mk (ho); clear HO_2; clear HL254_1; clear HB; clear HO_1; have HO_2 := n0_; have HL254_1 := n1_; have HB := n2_; have HO257 := n3_; clear n0_ n1_ n2_ n3_; clear ho hb hg hat)))
       go_roundg k1
       case measure => have := HK1.out; omega
       case rel => exact ⟨(y255), (wrap64 (x3_1 + 1)), (by first | rfl | (simp; done) | (simp [*]; done)), H', ⟨by have := HK1.out; omega⟩, ⟨by (with_reducible repeat (first | apply Kd.R_alloc | apply Kd.R_drewN | apply Kd.R_drew)); exact HO257.out⟩, ⟨by (with_reducible repeat (first | apply Kd.S_alloc | apply Kd.S_drewN | apply Kd.S_drew)); exact HO_2.out⟩, ⟨by repeat (first | (with_reducible first | exact HB.out | apply below_alloc | apply pw_below_drewN | apply below_drew1) | exact HB.out)⟩⟩
      ·rw [if_neg c6] at H
       exact absurd H (by simp)
     ·rw [if_neg c5] at H
      exact absurd H (by simp)
    ·rw [if_neg c4] at H
     have c4b0 : ((x1_1.length : Int) == 0) = false := beq_eq_false_iff_ne.mpr c4
     have c4b1 : ((x1_1.length : Int) != 0) = true := bne_iff_ne.mpr c4
     have c4b2 : ¬ (x1_1 = []) := fun h_ => c4 (by rw [h_]; rfl)
     obtain ⟨ji10, hji10⟩ : ∃ j_ : Int, (wrap64 ((x1_1.length : Int) - 1)) = j_ := ⟨_, rfl⟩
     replace H : (if 0 ≤ (ji10) then (if (ji10) < (x1_1.length : Int) then (if 0 ≤ x3_1 then (if (rdOf ByteArray.empty x1_1 (ji10)).toList = ((rd_T27 t251 x3_1).f0).toList then (computusref23_Ops.l0 k1 x1_1 t251 (wrap64 (x3_1 + 1))) else (if x1_1.length < 8796093022208 then (computusref23_Ops.l0 k1 (x1_1 ++ [(rd_T27 t251 x3_1).f0]) t251 (wrap64 (x3_1 + 1))) else (none))) else (none)) else (none)) else (none)) = some r := by first | (rw [hji10] at H; exact H) | (simp only [hji10] at H ⊢; exact H)
     have hji10w : (IntKind.i64.wrap ((x1_1.length : Int) - 1)) = ji10 := (i64_w _).trans hji10
     by_cases c11 : 0 ≤ (ji10)
     ·rw [if_pos c11] at H
      have c11b0 : decide (0 ≤ (ji10)) = true := decide_eq_true c11
      clear c11
      by_cases c12 : (ji10) < (x1_1.length : Int)
      ·rw [if_pos c12] at H
       have c12b0 : decide ((ji10) < (x1_1.length : Int)) = true := decide_eq_true c12
       clear c12
       by_cases c13 : 0 ≤ x3_1
       ·rw [if_pos c13] at H
        have c13b0 : decide (0 ≤ x3_1) = true := decide_eq_true c13
        clear c13
        by_cases c14 : (rdOf ByteArray.empty x1_1 (ji10)).toList = ((rd_T27 t251 x3_1).f0).toList
        ·rw [if_pos c14] at H
         have c14b0 : ((rdOf ByteArray.empty x1_1 (ji10)).toList == ((rd_T27 t251 x3_1).f0).toList) = true := beq_iff_eq.mpr c14
         have c14b1 : ((rdOf ByteArray.empty x1_1 (ji10)).toList != ((rd_T27 t251 x3_1).f0).toList) = false := bne_eq_false_iff_eq.mpr c14
         clear c14
         have H' := Aside0.mk H
         clear H
         obtain ⟨Ao15, co15, eo15⟩ := Kd.S_slice HO_2.out
         subst eo15
         obtain ⟨Ao16, co16, eo16⟩ := Kd.R_slice HO_1.out
         subst eo16
         have p258 : 0 ≤ ((ji10) : Int) := of_decide_eq_true (by first | (with_reducible assumption) | assumption)
         have q258 : (ji10) < (x1_1.length : Int) := of_decide_eq_true (by first | (with_reducible assumption) | assumption)
         obtain ⟨ad258, e258, hx258_0⟩ := Kd.at_string (Kd.R_reads' HO_1.out).2.2 (ji10) p258 q258
         cases e258
         replace p258 := eq_true p258
         replace q258 := eq_true q258
         have p259 : 0 ≤ (x3_1 : Int) := of_decide_eq_true (by first | (with_reducible assumption) | assumption)
         have q259 : x3_1 < (t251.length : Int) := of_decide_eq_true (by first | (with_reducible assumption) | assumption)
         obtain ⟨ad259, A259_1, c259_1, e259, hx259_0, hx259_1, hx259_2, hl259_1, hi259_1⟩ := at_T27 (Kd.S_reads' HO_2.out).2.2 x3_1 p259 q259
         cases e259
         obtain ⟨ce259, hce259, hMe259, hcc259⟩ := Kd.S_get HO_2.out z27 x3_1 p259 (by first | exact q259 | exact of_decide_eq_true (by first | (with_reducible assumption) | assumption) | (have e_ := (Kd.S_reads' HO_2.out).1; omega))
         obtain ⟨ve259_1, rfl, ge259_1⟩ := k27_openM hMe259
         have hv259_1 := hcc259 1 _ rfl
         rw [add_field _ _ 1 (by omega)] at hv259_1
         replace hv259_1 := Option.some.inj (hv259_1.symm.trans hx259_1)
         rw [hv259_1] at ge259_1
         have HL259_1 := Aside0.mk (show Kd.R (Kd.int .i64) 3 _ _ _ _ ((rd_T27 t251 x3_1).f1) from ge259_1)
         clear hv259_1 ge259_1
         clear hcc259 hce259
         have HR259_1 := Aside0.mk hi259_1
         have HC259_1 := Aside0.mk hl259_1
         clear hi259_1 hl259_1
         replace p259 := eq_true p259
         replace q259 := eq_true q259
         go_wp2
         repeat (go_quiet (fail); try go_wp2)
         go_roundg k1
         case measure => have := HK1.out; omega
         case rel => exact ⟨(x1_1), (wrap64 (x3_1 + 1)), (by first | rfl | (simp; done) | (simp [*]; done)), H', ⟨by have := HK1.out; omega⟩, ⟨by (with_reducible repeat (first | apply Kd.R_alloc | apply Kd.R_drewN | apply Kd.R_drew)); exact HO_1.out⟩, ⟨by (with_reducible repeat (first | apply Kd.S_alloc | apply Kd.S_drewN | apply Kd.S_drew)); exact HO_2.out⟩, ⟨by repeat (first | (with_reducible first | exact HB.out | apply below_alloc | apply pw_below_drewN | apply below_drew1) | exact HB.out)⟩⟩
        ·rw [if_neg c14] at H
         have c14b0 : ((rdOf ByteArray.empty x1_1 (ji10)).toList == ((rd_T27 t251 x3_1).f0).toList) = false := beq_eq_false_iff_ne.mpr c14
         have c14b1 : ((rdOf ByteArray.empty x1_1 (ji10)).toList != ((rd_T27 t251 x3_1).f0).toList) = true := bne_iff_ne.mpr c14
         by_cases c17 : x1_1.length < 8796093022208
         ·rw [if_pos c17] at H
          have LMc17 := Aside0.mk c17
          clear c17
          obtain ⟨y261, hy261⟩ : ∃ y_ : List ByteArray, y_ = (x1_1 ++ [(rd_T27 t251 x3_1).f0]) := ⟨_, rfl⟩
          replace H : (computusref23_Ops.l0 k1 y261 t251 (wrap64 (x3_1 + 1))) = some r := by first | (rw [hy261]; with_reducible exact H) | (have H2_ := (Option.bind_some _ _).symm.trans H; rw [hy261]; with_reducible exact H2_) | (have H2_ := (Option.bind_some _ _).symm.trans H; with_reducible exact H2_) | with_reducible exact H | (rw [hy261]; exact H) | exact H
          have Ny261 := Aside0.mk hy261
          clear hy261
          have H' := Aside0.mk H
          clear H
          obtain ⟨Ao18, co18, eo18⟩ := Kd.S_slice HO_2.out
          subst eo18
          obtain ⟨Ao19, co19, eo19⟩ := Kd.R_slice HO_1.out
          subst eo19
          have p258 : 0 ≤ ((ji10) : Int) := of_decide_eq_true (by first | (with_reducible assumption) | assumption)
          have q258 : (ji10) < (x1_1.length : Int) := of_decide_eq_true (by first | (with_reducible assumption) | assumption)
          obtain ⟨ad258, e258, hx258_0⟩ := Kd.at_string (Kd.R_reads' HO_1.out).2.2 (ji10) p258 q258
          cases e258
          replace p258 := eq_true p258
          replace q258 := eq_true q258
          have p259 : 0 ≤ (x3_1 : Int) := of_decide_eq_true (by first | (with_reducible assumption) | assumption)
          have q259 : x3_1 < (t251.length : Int) := of_decide_eq_true (by first | (with_reducible assumption) | assumption)
          obtain ⟨ad259, A259_1, c259_1, e259, hx259_0, hx259_1, hx259_2, hl259_1, hi259_1⟩ := at_T27 (Kd.S_reads' HO_2.out).2.2 x3_1 p259 q259
          cases e259
          obtain ⟨ce259, hce259, hMe259, hcc259⟩ := Kd.S_get HO_2.out z27 x3_1 p259 (by first | exact q259 | exact of_decide_eq_true (by first | (with_reducible assumption) | assumption) | (have e_ := (Kd.S_reads' HO_2.out).1; omega))
          obtain ⟨ve259_1, rfl, ge259_1⟩ := k27_openM hMe259
          have hv259_1 := hcc259 1 _ rfl
          rw [add_field _ _ 1 (by omega)] at hv259_1
          replace hv259_1 := Option.some.inj (hv259_1.symm.trans hx259_1)
          rw [hv259_1] at ge259_1
          have HL259_1 := Aside0.mk (show Kd.R (Kd.int .i64) 3 _ _ _ _ ((rd_T27 t251 x3_1).f1) from ge259_1)
          clear hv259_1 ge259_1
          clear hcc259 hce259
          have HR259_1 := Aside0.mk hi259_1
          have HC259_1 := Aside0.mk hl259_1
          clear hi259_1 hl259_1
          replace p259 := eq_true p259
          replace q259 := eq_true q259
          have p260 : 0 ≤ (x3_1 : Int) := of_decide_eq_true (by first | (with_reducible assumption) | assumption)
          have q260 : x3_1 < (t251.length : Int) := of_decide_eq_true (by first | (with_reducible assumption) | assumption)
          obtain ⟨ad260, A260_1, c260_1, e260, hx260_0, hx260_1, hx260_2, hl260_1, hi260_1⟩ := at_T27 (Kd.S_reads' HO_2.out).2.2 x3_1 p260 q260
          obtain rfl : ad259 = ad260 := (by injection e260)
          obtain ⟨ce260, hce260, hMe260, hcc260⟩ := Kd.S_get HO_2.out z27 x3_1 p260 (by first | exact q260 | exact of_decide_eq_true (by first | (with_reducible assumption) | assumption) | (have e_ := (Kd.S_reads' HO_2.out).1; omega))
          obtain ⟨ve260_1, rfl, ge260_1⟩ := k27_openM hMe260
          have hv260_1 := hcc260 1 _ rfl
          rw [add_field _ _ 1 (by omega)] at hv260_1
          replace hv260_1 := Option.some.inj (hv260_1.symm.trans hx260_1)
          rw [hv260_1] at ge260_1
          have HL260_1 := Aside0.mk (show Kd.R (Kd.int .i64) 3 _ _ _ _ ((rd_T27 t251 x3_1).f1) from ge260_1)
          clear hv260_1 ge260_1
          clear hcc260 hce260
          have HR260_1 := Aside0.mk hi260_1
          have HC260_1 := Aside0.mk hl260_1
          clear hi260_1 hl260_1
          replace p260 := eq_true p260
          replace q260 := eq_true q260
          have ea_ := Option.some.inj (hx259_1.symm.trans hx260_1)
          injection ea_ with ea_ en_ ec_
          subst ea_
          subst ec_
          clear en_
          go_wp2_with (first | ((with_reducible refine gate_builtin (b := .append) (xs := #[.tmp 28, .tmp 34]) rfl ?_); (try (refine gate_guard (by rfl) ?_; dsimp only)); at_builtin; refine Kd.R_append Kd.string (w0 := w) w.heap.size rfl (.tmp 28) (.tmp 34) 37 9 (.string ⟨#[]⟩) 16 rfl Tryd.underlying37 info9 rfl (by decide) (by omega) (.slice (some ad258) x1_1.length co19) x1_1 ((rd_T27 t251 x3_1).f0) [.string ((rd_T27 t251 x3_1).f0)] (fun _ => True) (fun _ => False) rfl rfl ?aP (fun _ hk => hk.elim) ?aF ?aO ?aB ?aS ?aL ?_; (case aP => exact rfl); (case aB => exact (by repeat (first | (with_reducible first | exact HB.out | apply below_alloc | apply pw_below_drewN | apply below_drew1) | exact HB.out))); (case aF => exact (fun _ _ => trivial)); (case aO => exact (by (with_reducible repeat (first | apply Kd.R_alloc | apply Kd.R_drewN | apply Kd.R_drew)); exact HO_1.out)); (case aS => exact (below_size (by repeat (first | (with_reducible first | exact HB.out | apply below_alloc | apply pw_below_drewN | apply below_drew1) | exact HB.out)))); (case aL => have := LMc17.out; omega); intro v262 w20 ho hb hg hat; rw [← Ny261.out] at ho; have n0_ := Aside0.mk (Kd.S_over' (by (with_reducible repeat (first | apply Kd.S_alloc | apply Kd.S_drewN | apply Kd.S_drew)); exact HO_2.out) (Kd.R_typed (by (with_reducible repeat (first | apply Kd.R_alloc | apply Kd.R_drewN | apply Kd.R_drew)); exact HO_1.out)) (by decide) hg); have n1_ := Aside0.mk (Kd.R_over' (by (with_reducible repeat (first | apply Kd.R_alloc | apply Kd.R_drewN | apply Kd.R_drew)); exact HL259_1.out) (Kd.R_typed (by (with_reducible repeat (first | apply Kd.R_alloc | apply Kd.R_drewN | apply Kd.R_drew)); exact HO_1.out)) (by decide) hg); have n2_ := Aside0.mk (Kd.R_over' (by (with_reducible repeat (first | apply Kd.R_alloc | apply Kd.R_drewN | apply Kd.R_drew)); exact HL260_1.out) (Kd.R_typed (by (with_reducible repeat (first | apply Kd.R_alloc | apply Kd.R_drewN | apply Kd.R_drew)); exact HO_1.out)) (by decide) hg); have n3_ := Aside0.mk (hb); have n4_ := Aside0.mk (ho); clear HO_2; clear HL259_1; clear HL260_1; clear HB; clear HO_1; have HO_2 := n0_; have HL259_1 := n1_; have HL260_1 := n2_; have HB := n3_; have HO263 := n4_; clear n0_ n1_ n2_ n3_ n4_; clear ho hb hg hat))
          repeat (go_quiet (first | ((with_reducible refine gate_builtin (b := .append) (xs := #[.tmp 28, .tmp 34]) rfl ?_); (try (refine gate_guard (by rfl) ?_; dsimp only)); at_builtin; refine Kd.R_append Kd.string (w0 := w) w.heap.size rfl (.tmp 28) (.tmp 34) 37 9 (.string ⟨#[]⟩) 16 rfl Tryd.underlying37 info9 rfl (by decide) (by omega) (.slice (some ad258) x1_1.length co19) x1_1 ((rd_T27 t251 x3_1).f0) [.string ((rd_T27 t251 x3_1).f0)] (fun _ => True) (fun _ => False) rfl rfl ?aP (fun _ hk => hk.elim) ?aF ?aO ?aB ?aS ?aL ?_; (case aP => exact rfl); (case aB => exact (by repeat (first | (with_reducible first | exact HB.out | apply below_alloc | apply pw_below_drewN | apply below_drew1) | exact HB.out))); (case aF => exact (fun _ _ => trivial)); (case aO => exact (by (with_reducible repeat (first | apply Kd.R_alloc | apply Kd.R_drewN | apply Kd.R_drew)); exact HO_1.out)); (case aS => exact (below_size (by repeat (first | (with_reducible first | exact HB.out | apply below_alloc | apply pw_below_drewN | apply below_drew1) | exact HB.out)))); (case aL => have := LMc17.out; omega); intro v262 w20 ho hb hg hat; rw [← Ny261.out] at ho; have n0_ := Aside0.mk (Kd.S_over' (by (with_reducible repeat (first | apply Kd.S_alloc | apply Kd.S_drewN | apply Kd.S_drew)); exact HO_2.out) (Kd.R_typed (by (with_reducible repeat (first | apply Kd.R_alloc | apply Kd.R_drewN | apply Kd.R_drew)); exact HO_1.out)) (by decide) hg); have n1_ := Aside0.mk (Kd.R_over' (by (with_reducible repeat (first | apply Kd.R_alloc | apply Kd.R_drewN | apply Kd.R_drew)); exact HL259_1.out) (Kd.R_typed (by (with_reducible repeat (first | apply Kd.R_alloc | apply Kd.R_drewN | apply Kd.R_drew)); exact HO_1.out)) (by decide) hg); have n2_ := Aside0.mk (Kd.R_over' (by (with_reducible repeat (first | apply Kd.R_alloc | apply Kd.R_drewN | apply Kd.R_drew)); exact HL260_1.out) (Kd.R_typed (by (with_reducible repeat (first | apply Kd.R_alloc | apply Kd.R_drewN | apply Kd.R_drew)); exact HO_1.out)) (by decide) hg); have n3_ := Aside0.mk (hb); have n4_ := Aside0.mk (ho); clear HO_2; clear HL259_1; clear HL260_1; clear HB; clear HO_1; have HO_2 := n0_; have HL259_1 := n1_; have HL260_1 := n2_; have HB := n3_; have HO263 := n4_; clear n0_ n1_ n2_ n3_ n4_; clear ho hb hg hat)); try go_wp2_with (first | ((with_reducible refine gate_builtin (b := .append) (xs := #[.tmp 28, .tmp 34]) rfl ?_); (try (refine gate_guard (by rfl) ?_; dsimp only)); at_builtin; refine Kd.R_append Kd.string (w0 := w) w.heap.size rfl (.tmp 28) (.tmp 34) 37 9 (.string ⟨#[]⟩) 16 rfl Tryd.underlying37 info9 rfl (by decide) (by omega) (.slice (some ad258) x1_1.length co19) x1_1 ((rd_T27 t251 x3_1).f0) [.string ((rd_T27 t251 x3_1).f0)] (fun _ => True) (fun _ => False) rfl rfl ?aP (fun _ hk => hk.elim) ?aF ?aO ?aB ?aS ?aL ?_; (case aP => exact rfl); (case aB => exact (by repeat (first | (with_reducible first | exact HB.out | apply below_alloc | apply pw_below_drewN | apply below_drew1) | exact HB.out))); (case aF => exact (fun _ _ => trivial)); (case aO => exact (by (with_reducible repeat (first | apply Kd.R_alloc | apply Kd.R_drewN | apply Kd.R_drew)); exact HO_1.out)); (case aS => exact (below_size (by repeat (first | (with_reducible first | exact HB.out | apply below_alloc | apply pw_below_drewN | apply below_drew1) | exact HB.out)))); (case aL => have := LMc17.out; omega); intro v262 w20 ho hb hg hat; rw [← Ny261.out] at ho; have n0_ := Aside0.mk (Kd.S_over' (by (with_reducible repeat (first | apply Kd.S_alloc | apply Kd.S_drewN | apply Kd.S_drew)); exact HO_2.out) (Kd.R_typed (by (with_reducible repeat (first | apply Kd.R_alloc | apply Kd.R_drewN | apply Kd.R_drew)); exact HO_1.out)) (by decide) hg); have n1_ := Aside0.mk (Kd.R_over' (by (with_reducible repeat (first | apply Kd.R_alloc | apply Kd.R_drewN | apply Kd.R_drew)); exact HL259_1.out) (Kd.R_typed (by (with_reducible repeat (first | apply Kd.R_alloc | apply Kd.R_drewN | apply Kd.R_drew)); exact HO_1.out)) (by decide) hg); have n2_ := Aside0.mk (Kd.R_over' (by (with_reducible repeat (first | apply Kd.R_alloc | apply Kd.R_drewN | apply Kd.R_drew)); exact HL260_1.out) (Kd.R_typed (by (with_reducible repeat (first | apply Kd.R_alloc | apply Kd.R_drewN | apply Kd.R_drew)); exact HO_1.out)) (by decide) hg); have n3_ := Aside0.mk (hb); have n4_ := Aside0.mk (ho); clear HO_2; clear HL259_1; clear HL260_1; clear HB; clear HO_1; have HO_2 := n0_; have HL259_1 := n1_; have HL260_1 := n2_; have HB := n3_; have HO263 := n4_; clear n0_ n1_ n2_ n3_ n4_; clear ho hb hg hat)))
          go_roundg k1
          case measure => have := HK1.out; omega
          case rel => exact ⟨(y261), (wrap64 (x3_1 + 1)), (by first | rfl | (simp; done) | (simp [*]; done)), H', ⟨by have := HK1.out; omega⟩, ⟨by (with_reducible repeat (first | apply Kd.R_alloc | apply Kd.R_drewN | apply Kd.R_drew)); exact HO263.out⟩, ⟨by (with_reducible repeat (first | apply Kd.S_alloc | apply Kd.S_drewN | apply Kd.S_drew)); exact HO_2.out⟩, ⟨by repeat (first | (with_reducible first | exact HB.out | apply below_alloc | apply pw_below_drewN | apply below_drew1) | exact HB.out)⟩⟩
         ·rw [if_neg c17] at H
          exact absurd H (by simp)
       ·rw [if_neg c13] at H
        exact absurd H (by simp)
      ·rw [if_neg c12] at H
       exact absurd H (by simp)
     ·rw [if_neg c11] at H
      exact absurd H (by simp)
   ·rw [if_neg c3] at H
    have c3b0 : decide (x3_1 < (t251.length : Int)) = false := decide_eq_false c3
    clear c3
    obtain ⟨y264, hy264⟩ : ∃ y_ : List ByteArray, y_ = (([(⟨#[61]⟩ : ByteArray), (⟨#[60, 62]⟩ : ByteArray), (⟨#[60]⟩ : ByteArray), (⟨#[60, 61]⟩ : ByteArray), (⟨#[62]⟩ : ByteArray), (⟨#[62, 61]⟩ : ByteArray)] : List ByteArray)) := ⟨_, rfl⟩
    replace H : (if x1_1.length + y264.length < 8796093022208 then (some (x1_1 ++ y264)) else (none)) = some r := by first | (rw [hy264]; with_reducible exact H) | (have H2_ := (Option.bind_some _ _).symm.trans H; rw [hy264]; with_reducible exact H2_) | (have H2_ := (Option.bind_some _ _).symm.trans H; with_reducible exact H2_) | with_reducible exact H | (rw [hy264]; exact H) | exact H
    have Ny264 := Aside0.mk hy264
    clear hy264
    by_cases c21 : x1_1.length + y264.length < 8796093022208
    ·rw [if_pos c21] at H
     have LMc21 := Aside0.mk c21
     clear c21
     obtain ⟨y267, hy267⟩ : ∃ y_ : List ByteArray, y_ = (x1_1 ++ y264) := ⟨_, rfl⟩
     replace H : (some y267) = some r := by first | (rw [hy267]; with_reducible exact H) | (have H2_ := (Option.bind_some _ _).symm.trans H; rw [hy267]; with_reducible exact H2_) | (have H2_ := (Option.bind_some _ _).symm.trans H; with_reducible exact H2_) | with_reducible exact H | (rw [hy267]; exact H) | exact H
     have Ny267 := Aside0.mk hy267
     clear hy267
     obtain rfl := Option.some.inj H
     obtain ⟨Ao22, co22, eo22⟩ := Kd.S_slice HO_2.out
     subst eo22
     go_wp2_with (first | ((with_reducible refine gate_dst (N := 37) rfl ?_); (try (refine gate_guard (by rfl) ?_; dsimp only)); refine Kd.R_lit Kd.string _ 9 ?hg (N := 37) ?hd (xs := ([(⟨#[61]⟩ : ByteArray), (⟨#[60, 62]⟩ : ByteArray), (⟨#[60]⟩ : ByteArray), (⟨#[60, 61]⟩ : ByteArray), (⟨#[62]⟩ : ByteArray), (⟨#[62, 61]⟩ : ByteArray)] : List ByteArray)) (inner := [.string (⟨#[61]⟩ : ByteArray), .string (⟨#[60, 62]⟩ : ByteArray), .string (⟨#[60]⟩ : ByteArray), .string (⟨#[60, 61]⟩ : ByteArray), .string (⟨#[62]⟩ : ByteArray), .string (⟨#[62, 61]⟩ : ByteArray)]) (ok := fun _ => True) (okp := fun _ => True) ?hr ?hp (fun _ hk => hk) trivial (Below.refl _ _) (Nat.le_refl _) (by simp) ?_; (case hd => rfl); (case hg => rfl); (case hr => first | (go_simp; done) | (go_simp; rfl)); (case hp => exact (Reps.one (show Kd.M Kd.string _ _ _ (⟨#[61]⟩ : ByteArray) [.string (⟨#[61]⟩ : ByteArray)] from rfl) (Reps.one (show Kd.M Kd.string _ _ _ (⟨#[60, 62]⟩ : ByteArray) [.string (⟨#[60, 62]⟩ : ByteArray)] from rfl) (Reps.one (show Kd.M Kd.string _ _ _ (⟨#[60]⟩ : ByteArray) [.string (⟨#[60]⟩ : ByteArray)] from rfl) (Reps.one (show Kd.M Kd.string _ _ _ (⟨#[60, 61]⟩ : ByteArray) [.string (⟨#[60, 61]⟩ : ByteArray)] from rfl) (Reps.one (show Kd.M Kd.string _ _ _ (⟨#[62]⟩ : ByteArray) [.string (⟨#[62]⟩ : ByteArray)] from rfl) (Reps.one (show Kd.M Kd.string _ _ _ (⟨#[62, 61]⟩ : ByteArray) [.string (⟨#[62, 61]⟩ : ByteArray)] from rfl) (Reps.none _ _)))))))); intro v265 w23 ho24 hb hg_ hnew_; clear hg_ hnew_; (first | rw [← Ny264.out] at ho24 | (simp only [Int.reduceToNat] at ho24; rw [← Ny264.out] at ho24)); have n0_ := Aside0.mk (Kd.R_elder' (by (with_reducible repeat (first | apply Kd.R_alloc | apply Kd.R_drewN | apply Kd.R_drew)); exact HO_1.out) (Kd.R_base ho24) hb); have n1_ := Aside0.mk (Kd.S_below (by (with_reducible repeat (first | apply Kd.S_alloc | apply Kd.S_drewN | apply Kd.S_drew)); exact HO_2.out) hb); have n2_ := Aside0.mk (Kd.R_lower (Kd.R_new' ho24 (Kd.R_lt (by (with_reducible repeat (first | apply Kd.R_alloc | apply Kd.R_drewN | apply Kd.R_drew)); exact HO_1.out))) (below_size (by repeat (first | (with_reducible first | exact HB.out | apply below_alloc | apply pw_below_drewN | apply below_drew1) | exact HB.out)))); have n3_ := Aside0.mk (below_step (by repeat (first | (with_reducible first | exact HB.out | apply below_alloc | apply pw_below_drewN | apply below_drew1) | exact HB.out)) hb); clear HO_1; clear HO_2; clear HB; have HO_1 := n0_; have HO_2 := n1_; have HO266 := n2_; have HB := n3_; clear n0_ n1_ n2_ n3_; clear hb ho24; obtain ⟨Ao26, co26, eo26⟩ := Kd.R_slice HO266.out; subst eo26) | ((with_reducible refine gate_builtin (b := .append) (xs := #[.tmp 36, .tmp 37]) rfl ?_); (try (refine gate_guard (by rfl) ?_; dsimp only)); at_builtin; refine Kd.R_append_rows Kd.string (w0 := w) w.heap.size rfl (.tmp 36) (.tmp 37) 37 9 (.string ⟨#[]⟩) 16 rfl Tryd.underlying37 info9 rfl (by decide) (by omega) u1 x1_1 y264 _ _ _ (fun k_ => some k_ ≠ (.slice Ao26 y264.length co26 : Value).ownBlock) (fun _ => False) rfl rfl ?aO ?aR (fun _ _ h => h) (fun _ h => h.elim) ?aF ?aB ?aS ?aL ?_; (case aR => repeat (first | exact (Kd.R_reads' HO266.out).2.2 | (with_reducible refine Kd.C_alloc ?_ _) | (with_reducible refine Kd.C_drewN ?_ _) | (with_reducible refine Kd.C_drew ?_))); (case aB => exact (by repeat (first | (with_reducible first | exact HB.out | apply below_alloc | apply pw_below_drewN | apply below_drew1) | exact HB.out))); (case aF => exact (fun k_ hk => Kd.fresh' (Kd.R_lt (by (with_reducible repeat (first | apply Kd.R_alloc | apply Kd.R_drewN | apply Kd.R_drew)); exact HO266.out)) k_ hk)); (case aO => exact (by (with_reducible repeat (first | apply Kd.R_alloc | apply Kd.R_drewN | apply Kd.R_drew)); exact Kd.R_mono HO_1.out (fun _ hk => hk.2))); (case aS => exact (below_size (by repeat (first | (with_reducible first | exact HB.out | apply below_alloc | apply pw_below_drewN | apply below_drew1) | exact HB.out)))); (case aL => have := LMc21.out; omega); intro v268 w25 ho hb hg hat; rw [← Ny267.out] at ho; have n0_ := Aside0.mk (Kd.S_over' (by (with_reducible repeat (first | apply Kd.S_alloc | apply Kd.S_drewN | apply Kd.S_drew)); exact HO_2.out) (Kd.R_typed (by (with_reducible repeat (first | apply Kd.R_alloc | apply Kd.R_drewN | apply Kd.R_drew)); exact HO_1.out)) (by decide) hg); have n1_ := Aside0.mk (Kd.R_after (ok := (fun _ => True)) (by (with_reducible repeat (first | apply Kd.R_alloc | apply Kd.R_drewN | apply Kd.R_drew)); exact HO266.out) hg hat); have n2_ := Aside0.mk (hb); have n3_ := Aside0.mk (ho); clear HO_2; clear HO266; clear HB; clear HO_1; have HO_2 := n0_; have HO266 := n1_; have HB := n2_; have HO269 := n3_; clear n0_ n1_ n2_ n3_; clear ho hb hg hat))
     repeat (go_quiet (first | ((with_reducible refine gate_dst (N := 37) rfl ?_); (try (refine gate_guard (by rfl) ?_; dsimp only)); refine Kd.R_lit Kd.string _ 9 ?hg (N := 37) ?hd (xs := ([(⟨#[61]⟩ : ByteArray), (⟨#[60, 62]⟩ : ByteArray), (⟨#[60]⟩ : ByteArray), (⟨#[60, 61]⟩ : ByteArray), (⟨#[62]⟩ : ByteArray), (⟨#[62, 61]⟩ : ByteArray)] : List ByteArray)) (inner := [.string (⟨#[61]⟩ : ByteArray), .string (⟨#[60, 62]⟩ : ByteArray), .string (⟨#[60]⟩ : ByteArray), .string (⟨#[60, 61]⟩ : ByteArray), .string (⟨#[62]⟩ : ByteArray), .string (⟨#[62, 61]⟩ : ByteArray)]) (ok := fun _ => True) (okp := fun _ => True) ?hr ?hp (fun _ hk => hk) trivial (Below.refl _ _) (Nat.le_refl _) (by simp) ?_; (case hd => rfl); (case hg => rfl); (case hr => first | (go_simp; done) | (go_simp; rfl)); (case hp => exact (Reps.one (show Kd.M Kd.string _ _ _ (⟨#[61]⟩ : ByteArray) [.string (⟨#[61]⟩ : ByteArray)] from rfl) (Reps.one (show Kd.M Kd.string _ _ _ (⟨#[60, 62]⟩ : ByteArray) [.string (⟨#[60, 62]⟩ : ByteArray)] from rfl) (Reps.one (show Kd.M Kd.string _ _ _ (⟨#[60]⟩ : ByteArray) [.string (⟨#[60]⟩ : ByteArray)] from rfl) (Reps.one (show Kd.M Kd.string _ _ _ (⟨#[60, 61]⟩ : ByteArray) [.string (⟨#[60, 61]⟩ : ByteArray)] from rfl) (Reps.one (show Kd.M Kd.string _ _ _ (⟨#[62]⟩ : ByteArray) [.string (⟨#[62]⟩ : ByteArray)] from rfl) (Reps.one (show Kd.M Kd.string _ _ _ (⟨#[62, 61]⟩ : ByteArray) [.string (⟨#[62, 61]⟩ : ByteArray)] from rfl) (Reps.none _ _)))))))); intro v265 w23 ho24 hb hg_ hnew_; clear hg_ hnew_; (first | rw [← Ny264.out] at ho24 | (simp only [Int.reduceToNat] at ho24; rw [← Ny264.out] at ho24)); have n0_ := Aside0.mk (Kd.R_elder' (by (with_reducible repeat (first | apply Kd.R_alloc | apply Kd.R_drewN | apply Kd.R_drew)); exact HO_1.out) (Kd.R_base ho24) hb); have n1_ := Aside0.mk (Kd.S_below (by (with_reducible repeat (first | apply Kd.S_alloc | apply Kd.S_drewN | apply Kd.S_drew)); exact HO_2.out) hb); have n2_ := Aside0.mk (Kd.R_lower (Kd.R_new' ho24 (Kd.R_lt (by (with_reducible repeat (first | apply Kd.R_alloc | apply Kd.R_drewN | apply Kd.R_drew)); exact HO_1.out))) (below_size (by repeat (first | (with_reducible first | exact HB.out | apply below_alloc | apply pw_below_drewN | apply below_drew1) | exact HB.out)))); have n3_ := Aside0.mk (below_step (by repeat (first | (with_reducible first | exact HB.out | apply below_alloc | apply pw_below_drewN | apply below_drew1) | exact HB.out)) hb); clear HO_1; clear HO_2; clear HB; have HO_1 := n0_; have HO_2 := n1_; have HO266 := n2_; have HB := n3_; clear n0_ n1_ n2_ n3_; clear hb ho24; obtain ⟨Ao26, co26, eo26⟩ := Kd.R_slice HO266.out; subst eo26) | ((with_reducible refine gate_builtin (b := .append) (xs := #[.tmp 36, .tmp 37]) rfl ?_); (try (refine gate_guard (by rfl) ?_; dsimp only)); at_builtin; refine Kd.R_append_rows Kd.string (w0 := w) w.heap.size rfl (.tmp 36) (.tmp 37) 37 9 (.string ⟨#[]⟩) 16 rfl Tryd.underlying37 info9 rfl (by decide) (by omega) u1 x1_1 y264 _ _ _ (fun k_ => some k_ ≠ (.slice Ao26 y264.length co26 : Value).ownBlock) (fun _ => False) rfl rfl ?aO ?aR (fun _ _ h => h) (fun _ h => h.elim) ?aF ?aB ?aS ?aL ?_; (case aR => repeat (first | exact (Kd.R_reads' HO266.out).2.2 | (with_reducible refine Kd.C_alloc ?_ _) | (with_reducible refine Kd.C_drewN ?_ _) | (with_reducible refine Kd.C_drew ?_))); (case aB => exact (by repeat (first | (with_reducible first | exact HB.out | apply below_alloc | apply pw_below_drewN | apply below_drew1) | exact HB.out))); (case aF => exact (fun k_ hk => Kd.fresh' (Kd.R_lt (by (with_reducible repeat (first | apply Kd.R_alloc | apply Kd.R_drewN | apply Kd.R_drew)); exact HO266.out)) k_ hk)); (case aO => exact (by (with_reducible repeat (first | apply Kd.R_alloc | apply Kd.R_drewN | apply Kd.R_drew)); exact Kd.R_mono HO_1.out (fun _ hk => hk.2))); (case aS => exact (below_size (by repeat (first | (with_reducible first | exact HB.out | apply below_alloc | apply pw_below_drewN | apply below_drew1) | exact HB.out)))); (case aL => have := LMc21.out; omega); intro v268 w25 ho hb hg hat; rw [← Ny267.out] at ho; have n0_ := Aside0.mk (Kd.S_over' (by (with_reducible repeat (first | apply Kd.S_alloc | apply Kd.S_drewN | apply Kd.S_drew)); exact HO_2.out) (Kd.R_typed (by (with_reducible repeat (first | apply Kd.R_alloc | apply Kd.R_drewN | apply Kd.R_drew)); exact HO_1.out)) (by decide) hg); have n1_ := Aside0.mk (Kd.R_after (ok := (fun _ => True)) (by (with_reducible repeat (first | apply Kd.R_alloc | apply Kd.R_drewN | apply Kd.R_drew)); exact HO266.out) hg hat); have n2_ := Aside0.mk (hb); have n3_ := Aside0.mk (ho); clear HO_2; clear HO266; clear HB; clear HO_1; have HO_2 := n0_; have HO266 := n1_; have HB := n2_; have HO269 := n3_; clear n0_ n1_ n2_ n3_; clear ho hb hg hat)); try go_wp2_with (first | ((with_reducible refine gate_dst (N := 37) rfl ?_); (try (refine gate_guard (by rfl) ?_; dsimp only)); refine Kd.R_lit Kd.string _ 9 ?hg (N := 37) ?hd (xs := ([(⟨#[61]⟩ : ByteArray), (⟨#[60, 62]⟩ : ByteArray), (⟨#[60]⟩ : ByteArray), (⟨#[60, 61]⟩ : ByteArray), (⟨#[62]⟩ : ByteArray), (⟨#[62, 61]⟩ : ByteArray)] : List ByteArray)) (inner := [.string (⟨#[61]⟩ : ByteArray), .string (⟨#[60, 62]⟩ : ByteArray), .string (⟨#[60]⟩ : ByteArray), .string (⟨#[60, 61]⟩ : ByteArray), .string (⟨#[62]⟩ : ByteArray), .string (⟨#[62, 61]⟩ : ByteArray)]) (ok := fun _ => True) (okp := fun _ => True) ?hr ?hp (fun _ hk => hk) trivial (Below.refl _ _) (Nat.le_refl _) (by simp) ?_; (case hd => rfl); (case hg => rfl); (case hr => first | (go_simp; done) | (go_simp; rfl)); (case hp => exact (Reps.one (show Kd.M Kd.string _ _ _ (⟨#[61]⟩ : ByteArray) [.string (⟨#[61]⟩ : ByteArray)] from rfl) (Reps.one (show Kd.M Kd.string _ _ _ (⟨#[60, 62]⟩ : ByteArray) [.string (⟨#[60, 62]⟩ : ByteArray)] from rfl) (Reps.one (show Kd.M Kd.string _ _ _ (⟨#[60]⟩ : ByteArray) [.string (⟨#[60]⟩ : ByteArray)] from rfl) (Reps.one (show Kd.M Kd.string _ _ _ (⟨#[60, 61]⟩ : ByteArray) [.string (⟨#[60, 61]⟩ : ByteArray)] from rfl) (Reps.one (show Kd.M Kd.string _ _ _ (⟨#[62]⟩ : ByteArray) [.string (⟨#[62]⟩ : ByteArray)] from rfl) (Reps.one (show Kd.M Kd.string _ _ _ (⟨#[62, 61]⟩ : ByteArray) [.string (⟨#[62, 61]⟩ : ByteArray)] from rfl) (Reps.none _ _)))))))); intro v265 w23 ho24 hb hg_ hnew_; clear hg_ hnew_; (first | rw [← Ny264.out] at ho24 | (simp only [Int.reduceToNat] at ho24; rw [← Ny264.out] at ho24)); have n0_ := Aside0.mk (Kd.R_elder' (by (with_reducible repeat (first | apply Kd.R_alloc | apply Kd.R_drewN | apply Kd.R_drew)); exact HO_1.out) (Kd.R_base ho24) hb); have n1_ := Aside0.mk (Kd.S_below (by (with_reducible repeat (first | apply Kd.S_alloc | apply Kd.S_drewN | apply Kd.S_drew)); exact HO_2.out) hb); have n2_ := Aside0.mk (Kd.R_lower (Kd.R_new' ho24 (Kd.R_lt (by (with_reducible repeat (first | apply Kd.R_alloc | apply Kd.R_drewN | apply Kd.R_drew)); exact HO_1.out))) (below_size (by repeat (first | (with_reducible first | exact HB.out | apply below_alloc | apply pw_below_drewN | apply below_drew1) | exact HB.out)))); have n3_ := Aside0.mk (below_step (by repeat (first | (with_reducible first | exact HB.out | apply below_alloc | apply pw_below_drewN | apply below_drew1) | exact HB.out)) hb); clear HO_1; clear HO_2; clear HB; have HO_1 := n0_; have HO_2 := n1_; have HO266 := n2_; have HB := n3_; clear n0_ n1_ n2_ n3_; clear hb ho24; obtain ⟨Ao26, co26, eo26⟩ := Kd.R_slice HO266.out; subst eo26) | ((with_reducible refine gate_builtin (b := .append) (xs := #[.tmp 36, .tmp 37]) rfl ?_); (try (refine gate_guard (by rfl) ?_; dsimp only)); at_builtin; refine Kd.R_append_rows Kd.string (w0 := w) w.heap.size rfl (.tmp 36) (.tmp 37) 37 9 (.string ⟨#[]⟩) 16 rfl Tryd.underlying37 info9 rfl (by decide) (by omega) u1 x1_1 y264 _ _ _ (fun k_ => some k_ ≠ (.slice Ao26 y264.length co26 : Value).ownBlock) (fun _ => False) rfl rfl ?aO ?aR (fun _ _ h => h) (fun _ h => h.elim) ?aF ?aB ?aS ?aL ?_; (case aR => repeat (first | exact (Kd.R_reads' HO266.out).2.2 | (with_reducible refine Kd.C_alloc ?_ _) | (with_reducible refine Kd.C_drewN ?_ _) | (with_reducible refine Kd.C_drew ?_))); (case aB => exact (by repeat (first | (with_reducible first | exact HB.out | apply below_alloc | apply pw_below_drewN | apply below_drew1) | exact HB.out))); (case aF => exact (fun k_ hk => Kd.fresh' (Kd.R_lt (by (with_reducible repeat (first | apply Kd.R_alloc | apply Kd.R_drewN | apply Kd.R_drew)); exact HO266.out)) k_ hk)); (case aO => exact (by (with_reducible repeat (first | apply Kd.R_alloc | apply Kd.R_drewN | apply Kd.R_drew)); exact Kd.R_mono HO_1.out (fun _ hk => hk.2))); (case aS => exact (below_size (by repeat (first | (with_reducible first | exact HB.out | apply below_alloc | apply pw_below_drewN | apply below_drew1) | exact HB.out)))); (case aL => have := LMc21.out; omega); intro v268 w25 ho hb hg hat; rw [← Ny267.out] at ho; have n0_ := Aside0.mk (Kd.S_over' (by (with_reducible repeat (first | apply Kd.S_alloc | apply Kd.S_drewN | apply Kd.S_drew)); exact HO_2.out) (Kd.R_typed (by (with_reducible repeat (first | apply Kd.R_alloc | apply Kd.R_drewN | apply Kd.R_drew)); exact HO_1.out)) (by decide) hg); have n1_ := Aside0.mk (Kd.R_after (ok := (fun _ => True)) (by (with_reducible repeat (first | apply Kd.R_alloc | apply Kd.R_drewN | apply Kd.R_drew)); exact HO266.out) hg hat); have n2_ := Aside0.mk (hb); have n3_ := Aside0.mk (ho); clear HO_2; clear HO266; clear HB; clear HO_1; have HO_2 := n0_; have HO266 := n1_; have HB := n2_; have HO269 := n3_; clear n0_ n1_ n2_ n3_; clear ho hb hg hat)))
     go_ret
     exact ⟨_, by first | rfl | (simp [errW_none, errW_some] <;> rfl) | (simp [*, errW_none, errW_some] <;> rfl), by (with_reducible repeat (first | apply Kd.R_alloc | apply Kd.R_drewN | apply Kd.R_drew)); exact Kd.R_mono HO269.out (fun _ hk => trivial), by repeat (first | (with_reducible first | exact HB.out | apply below_alloc | apply pw_below_drewN | apply below_drew1) | exact HB.out)⟩
    ·rw [if_neg c21] at H
     exact absurd H (by simp)
end Go.Proofs.YtfgogfdbjbnlbaaDoor.PExpr
end
