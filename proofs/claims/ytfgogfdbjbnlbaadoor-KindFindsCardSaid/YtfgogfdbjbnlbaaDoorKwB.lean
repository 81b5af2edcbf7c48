/- What the claim of CardKindFinds needs, out of the session's texts, in their order. -/
import Derived.Test.YtfgogfdbjbnlbaaDoorKwA
section
namespace Go.Proofs.YtfgogfdbjbnlbaaDoor.PExpr
open Go.RowKit Go.Proofs.YtfgogfdbjbnlbaaDoorW.PrintWords Go.Proofs.YtfgogfdbjbnlbaaDoorW.PrintLast Go.Proofs.YtfgogfdbjbnlbaaDoorW.PrintMore
attribute [local go_sem] max2_int min2_int max_two min_two max_three min_three max_four min_four   -- for this text's walks alone
set_option linter.unusedVariables false
set_option linter.unusedSimpArgs false
mutual
def computuslaw23_KindFinds.j0 : Nat → List Int → List Int → Bool → Option (Bool)
 | 0, _, _, _ => none
 | k + 1, x1, x9, x63 => if x63 = true then (some false) else (computuslaw23_KindFinds.l0 k x1 x9 0)
def computuslaw23_KindFinds.l0 : Nat → List Int → List Int → Int → Option (Bool)
 | 0, _, _, _ => none
 | k + 1, x1, x9, x16 => if x16 < (x1.length : Int) then (if 0 ≤ x16 then (if x16 < (x9.length : Int) then (if (rd x9 x16) = (rd x1 x16) then (computuslaw23_KindFinds.l0 k x1 x9 (wrap64 (x16 + 1))) else (some false)) else (none)) else (none)) else ((kind_Ops.f k).bind fun t285 => ((computusref23_Ops.f k).bind fun t288 => (if (t285.length : Int) = (t288.length : Int) then (computuslaw23_KindFinds.l1 k t285 t288 0) else (some false))))
def computuslaw23_KindFinds.l1 : Nat → List ByteArray → List ByteArray → Int → Option (Bool)
 | 0, _, _, _ => none
 | k + 1, x17, x18, x19 => if x19 < (x17.length : Int) then (if 0 ≤ x19 then (if x19 < (x18.length : Int) then (if (rdOf ByteArray.empty x17 x19).toList = (rdOf ByteArray.empty x18 x19).toList then (computuslaw23_KindFinds.l1 k (x17.set (x19 : Int).toNat (⟨#[63]⟩ : ByteArray)) x18 (wrap64 (x19 + 1))) else (some false)) else (none)) else (none)) else ((kind_Ops.f k).bind fun t294 => (if 0 < (t294.length : Int) then (if 0 < (x18.length : Int) then (if (rdOf ByteArray.empty t294 0).toList = (rdOf ByteArray.empty x18 0).toList then ((computuslaw23_known.f).bind fun t299 => (some t299)) else (some false)) else (none)) else (none)))
end
def computuslaw23_KindFinds.f (k : Nat) (a0 : ByteArray) (l1 : List Int) (a2 : Int) (a3 : ByteArray) : Option (Bool) := if ([] : List Int).length + l1.length < 17592186044416 then ((some (([] : List Int) ++ l1 : List Int)).bind fun y270 => ((kind_Find.f a0 y270).bind fun bt273 => ((computusref23_Find.f k a0 l1).bind fun bt276 => (if bt273.1 = bt276.1 then (if (bt273.2.1 != bt276.2.1) = true then (computuslaw23_KindFinds.j0 k l1 y270 true) else (if (bt273.2.2 != bt276.2.2) = true then (computuslaw23_KindFinds.j0 k l1 y270 true) else ((kind_Name.f a2).bind fun t279 => ((computusref23_Name.f a2).bind fun t280 => (if t279.toList = t280.toList then ((kind_Kind.f k a3).bind fun t281 => ((computusref23_Kind.f k a3).bind fun t282 => (computuslaw23_KindFinds.j0 k l1 y270 (t281 != t282)))) else (computuslaw23_KindFinds.j0 k l1 y270 true)))))) else (computuslaw23_KindFinds.j0 k l1 y270 true))))) else (none)
theorem computuslaw23_KindFinds.mono_l : ∀ k, (∀ y0 y1 y2, LeO (computuslaw23_KindFinds.j0 k y0 y1 y2) (computuslaw23_KindFinds.j0 (k + 1) y0 y1 y2)) ∧ (∀ y0 y1 y2, LeO (computuslaw23_KindFinds.l0 k y0 y1 y2) (computuslaw23_KindFinds.l0 (k + 1) y0 y1 y2)) ∧ (∀ y0 y1 y2, LeO (computuslaw23_KindFinds.l1 k y0 y1 y2) (computuslaw23_KindFinds.l1 (k + 1) y0 y1 y2))
 | 0 => ⟨fun _ _ _ r h => by simp [computuslaw23_KindFinds.j0] at h, fun _ _ _ r h => by simp [computuslaw23_KindFinds.l0] at h, fun _ _ _ r h => by simp [computuslaw23_KindFinds.l1] at h⟩
 | k + 1 => by
  obtain ⟨ih0, ih1, ih2⟩ := computuslaw23_KindFinds.mono_l k
  refine ⟨?_, ?_, ?_⟩
  ·intro y0 y1 y2
   unfold computuslaw23_KindFinds.j0
   repeat' first
   | (with_reducible exact ih0 _ _ _)
   | (with_reducible exact ih1 _ _ _)
   | (with_reducible exact ih2 _ _ _)
   | (with_reducible exact computusref23_Find.mono _ _ _)
   | (with_reducible exact computusref23_Kind.mono _ _)
   | (with_reducible exact computusref23_Ops.mono _)
   | (with_reducible exact kind_Kind.mono _ _)
   | (with_reducible exact kind_Ops.mono _)
   | (with_reducible exact LeO.refl _)
   | (with_reducible exact LeO.none _)
   | (with_reducible refine LeO.ite ?_ ?_)
   | (with_reducible refine LeO.bind ?_ (fun _ => ?_))
   | exact ih0 _ _ _
   | exact ih1 _ _ _
   | exact ih2 _ _ _
   | exact computusref23_Find.mono _ _ _
   | exact computusref23_Kind.mono _ _
   | exact computusref23_Ops.mono _
   | exact kind_Kind.mono _ _
   | exact kind_Ops.mono _
   | exact LeO.none _
   | refine LeO.ite ?_ ?_
   | refine LeO.bind ?_ (fun _ => ?_)
  ·intro y0 y1 y2
   unfold computuslaw23_KindFinds.l0
   repeat' first
   | (with_reducible exact ih0 _ _ _)
   | (with_reducible exact ih1 _ _ _)
   | (with_reducible exact ih2 _ _ _)
   | (with_reducible exact computusref23_Find.mono _ _ _)
   | (with_reducible exact computusref23_Kind.mono _ _)
   | (with_reducible exact computusref23_Ops.mono _)
   | (with_reducible exact kind_Kind.mono _ _)
   | (with_reducible exact kind_Ops.mono _)
   | (with_reducible exact LeO.refl _)
   | (with_reducible exact LeO.none _)
   | (with_reducible refine LeO.ite ?_ ?_)
   | (with_reducible refine LeO.bind ?_ (fun _ => ?_))
   | exact ih0 _ _ _
   | exact ih1 _ _ _
   | exact ih2 _ _ _
   | exact computusref23_Find.mono _ _ _
   | exact computusref23_Kind.mono _ _
   | exact computusref23_Ops.mono _
   | exact kind_Kind.mono _ _
   | exact kind_Ops.mono _
   | exact LeO.none _
   | refine LeO.ite ?_ ?_
   | refine LeO.bind ?_ (fun _ => ?_)
  ·intro y0 y1 y2
   unfold computuslaw23_KindFinds.l1
   repeat' first
   | (with_reducible exact ih0 _ _ _)
   | (with_reducible exact ih1 _ _ _)
   | (with_reducible exact ih2 _ _ _)
   | (with_reducible exact computusref23_Find.mono _ _ _)
   | (with_reducible exact computusref23_Kind.mono _ _)
   | (with_reducible exact computusref23_Ops.mono _)
   | (with_reducible exact kind_Kind.mono _ _)
   | (with_reducible exact kind_Ops.mono _)
   | (with_reducible exact LeO.refl _)
   | (with_reducible exact LeO.none _)
   | (with_reducible refine LeO.ite ?_ ?_)
   | (with_reducible refine LeO.bind ?_ (fun _ => ?_))
   | exact ih0 _ _ _
   | exact ih1 _ _ _
   | exact ih2 _ _ _
   | exact computusref23_Find.mono _ _ _
   | exact computusref23_Kind.mono _ _
   | exact computusref23_Ops.mono _
   | exact kind_Kind.mono _ _
   | exact kind_Ops.mono _
   | exact LeO.none _
   | refine LeO.ite ?_ ?_
   | refine LeO.bind ?_ (fun _ => ?_)
theorem computuslaw23_KindFinds.mono : ∀ a0 a1 a2 a3 k, LeO (computuslaw23_KindFinds.f k a0 a1 a2 a3) (computuslaw23_KindFinds.f (k + 1) a0 a1 a2 a3) := by
 intro a0 a1 a2 a3 k
 obtain ⟨ih0, ih1, ih2⟩ := computuslaw23_KindFinds.mono_l k
 unfold computuslaw23_KindFinds.f
 repeat' first
   | (with_reducible exact ih0 _ _ _)
   | (with_reducible exact ih1 _ _ _)
   | (with_reducible exact ih2 _ _ _)
   | (with_reducible exact computusref23_Find.mono _ _ _)
   | (with_reducible exact computusref23_Kind.mono _ _)
   | (with_reducible exact computusref23_Ops.mono _)
   | (with_reducible exact kind_Kind.mono _ _)
   | (with_reducible exact kind_Ops.mono _)
   | (with_reducible exact LeO.refl _)
   | (with_reducible exact LeO.none _)
   | (with_reducible refine LeO.ite ?_ ?_)
   | (with_reducible refine LeO.bind ?_ (fun _ => ?_))
   | exact ih0 _ _ _
   | exact ih1 _ _ _
   | exact ih2 _ _ _
   | exact computusref23_Find.mono _ _ _
   | exact computusref23_Kind.mono _ _
   | exact computusref23_Ops.mono _
   | exact kind_Kind.mono _ _
   | exact kind_Ops.mono _
   | exact LeO.none _
   | refine LeO.ite ?_ ?_
   | refine LeO.bind ?_ (fun _ => ?_)
def computuslaw23_KindFinds.T10 : Bool × List (List Nat × List Nat) := (true, [([], []), ([], []), ([0, 1], [0, 1]), ([2], [2]), ([], []), ([], []), ([4, 5], [4, 5]), ([6], [6]), ([3, 7], [3, 7])])
def computuslaw23_KindFinds.B10 : List Nat := [0, 0, 3, 7, 0, 0, 48, 112, 255]
theorem computuslaw23_KindFinds.tab10 : rtab .any (opsOf Tryd.f5 10) = computuslaw23_KindFinds.T10 := by kernel_rfl
theorem computuslaw23_KindFinds.bits10 : waitsOk computuslaw23_KindFinds.T10.2 computuslaw23_KindFinds.B10 = true := by kernel_rfl
def computuslaw23_KindFinds.T19 : Bool × List (List Nat × List Nat) := (true, [([], []), ([], []), ([0, 1], [0, 1]), ([2], [2]), ([], []), ([], []), ([4, 5], [4, 5]), ([6], [6]), ([3, 7], [3, 7])])
def computuslaw23_KindFinds.B19 : List Nat := [0, 0, 3, 7, 0, 0, 48, 112, 255]
theorem computuslaw23_KindFinds.tab19 : rtab .any (opsOf Tryd.f5 19) = computuslaw23_KindFinds.T19 := by kernel_rfl
theorem computuslaw23_KindFinds.bits19 : waitsOk computuslaw23_KindFinds.T19.2 computuslaw23_KindFinds.B19 = true := by kernel_rfl
def computuslaw23_KindFinds.T23 : Bool × List (List Nat × List Nat) := (true, [([], []), ([0], [0]), ([1], [1]), ([], []), ([3], [3]), ([4], [4]), ([2, 5], [2, 5]), ([6], [6]), ([7, 7], [7]), ([7, 8], [7, 8]), ([9, 8, 0, 1, 2, 3, 4, 5, 6, 7, 8, 9], [9])])
def computuslaw23_KindFinds.B23 : List Nat := [0, 1, 3, 0, 8, 24, 63, 127, 255, 511, 1023]
theorem computuslaw23_KindFinds.tab23 : rtab .any (opsOf Tryd.f5 23) = computuslaw23_KindFinds.T23 := by kernel_rfl
theorem computuslaw23_KindFinds.bits23 : waitsOk computuslaw23_KindFinds.T23.2 computuslaw23_KindFinds.B23 = true := by kernel_rfl
set_option maxHeartbeats 8000000 in
set_option maxRecDepth 100000 in
theorem computuslaw23_KindFinds.calls (k : Nat) (a0 : ByteArray) (A1 : Option Addr) (c1 : Nat) (l1 : List Int) (a2 : Int) (a3 : ByteArray) (r : Bool) (w : World) (hTW0 : Tab w) (hr1 : Kd.C (Kd.int .i64) w A1 l1.length l1) (hc1 : l1.length ≤ c1) (h : computuslaw23_KindFinds.f k a0 l1 a2 a3 = some r) :
  Calls Tryd.prog 5 #[.string a0, .slice A1 l1.length c1, .int .i64 a2, .string a3] w fun e w' => e = .returned (.bool r) ∧ Below w.heap.size w w' := by
 have HTW0 := Aside0.mk hTW0
 clear hTW0
 have HR1 := Aside0.mk hr1
 have HC1 := Aside0.mk hc1
 clear hr1 hc1
 have HB := Aside0.mk (Below.refl w.heap.size w)
 have H : (if ([] : List Int).length + l1.length < 17592186044416 then ((some (([] : List Int) ++ l1 : List Int)).bind fun y270 => ((kind_Find.f a0 y270).bind fun bt273 => ((computusref23_Find.f k a0 l1).bind fun bt276 => (if bt273.1 = bt276.1 then (if (bt273.2.1 != bt276.2.1) = true then (computuslaw23_KindFinds.j0 k l1 y270 true) else (if (bt273.2.2 != bt276.2.2) = true then (computuslaw23_KindFinds.j0 k l1 y270 true) else ((kind_Name.f a2).bind fun t279 => ((computusref23_Name.f a2).bind fun t280 => (if t279.toList = t280.toList then ((kind_Kind.f k a3).bind fun t281 => ((computusref23_Kind.f k a3).bind fun t282 => (computuslaw23_KindFinds.j0 k l1 y270 (t281 != t282)))) else (computuslaw23_KindFinds.j0 k l1 y270 true)))))) else (computuslaw23_KindFinds.j0 k l1 y270 true))))) else (none)) = some r := h
 clear h
 by_cases c5 : ([] : List Int).length + l1.length < 17592186044416
 ·rw [if_pos c5] at H
  have LMc5 := Aside0.mk c5
  clear c5
  obtain ⟨y270, hy270⟩ : ∃ y_ : List Int, y_ = (([] : List Int) ++ l1) := ⟨_, rfl⟩
  replace H : ((kind_Find.f a0 y270).bind fun bt273 => ((computusref23_Find.f k a0 l1).bind fun bt276 => (if bt273.1 = bt276.1 then (if (bt273.2.1 != bt276.2.1) = true then (computuslaw23_KindFinds.j0 k l1 y270 true) else (if (bt273.2.2 != bt276.2.2) = true then (computuslaw23_KindFinds.j0 k l1 y270 true) else ((kind_Name.f a2).bind fun t279 => ((computusref23_Name.f a2).bind fun t280 => (if t279.toList = t280.toList then ((kind_Kind.f k a3).bind fun t281 => ((computusref23_Kind.f k a3).bind fun t282 => (computuslaw23_KindFinds.j0 k l1 y270 (t281 != t282)))) else (computuslaw23_KindFinds.j0 k l1 y270 true)))))) else (computuslaw23_KindFinds.j0 k l1 y270 true)))) = some r := by first | (rw [hy270]; with_reducible exact H) | (have H2_ := (Option.bind_some _ _).symm.trans H; rw [hy270]; with_reducible exact H2_) | (have H2_ := (Option.bind_some _ _).symm.trans H; with_reducible exact H2_) | with_reducible exact H | (rw [hy270]; exact H) | exact H
  have Ny270 := Aside0.mk hy270
  clear hy270
  replace H := Option.bind_eq_some_iff.mp H
  obtain ⟨⟨t273, t274, t275⟩, A60, H⟩ := H
  replace H : ((computusref23_Find.f k a0 l1).bind fun bt276 => (if t273 = bt276.1 then (if (t274 != bt276.2.1) = true then (computuslaw23_KindFinds.j0 k l1 y270 true) else (if (t275 != bt276.2.2) = true then (computuslaw23_KindFinds.j0 k l1 y270 true) else ((kind_Name.f a2).bind fun t279 => ((computusref23_Name.f a2).bind fun t280 => (if t279.toList = t280.toList then ((kind_Kind.f k a3).bind fun t281 => ((computusref23_Kind.f k a3).bind fun t282 => (computuslaw23_KindFinds.j0 k l1 y270 (t281 != t282)))) else (computuslaw23_KindFinds.j0 k l1 y270 true)))))) else (computuslaw23_KindFinds.j0 k l1 y270 true))) = some r := H
  have A6 := Aside0.mk A60
  clear A60
  replace H := Option.bind_eq_some_iff.mp H
  obtain ⟨⟨t276, t277, t278⟩, A70, H⟩ := H
  replace H : (if t273 = t276 then (if (t274 != t277) = true then (computuslaw23_KindFinds.j0 k l1 y270 true) else (if (t275 != t278) = true then (computuslaw23_KindFinds.j0 k l1 y270 true) else ((kind_Name.f a2).bind fun t279 => ((computusref23_Name.f a2).bind fun t280 => (if t279.toList = t280.toList then ((kind_Kind.f k a3).bind fun t281 => ((computusref23_Kind.f k a3).bind fun t282 => (computuslaw23_KindFinds.j0 k l1 y270 (t281 != t282)))) else (computuslaw23_KindFinds.j0 k l1 y270 true)))))) else (computuslaw23_KindFinds.j0 k l1 y270 true)) = some r := H
  have A7 := Aside0.mk A70
  clear A70
  have HC8 := Aside0.mk H
  clear H
  go_enter Tryd.func5, Tryd.ntmps5
  go_upto_region 5 with (first | ((with_reducible refine gate_builtin (b := .append) (xs := #[.tmp 20, .tmp 21]) rfl ?_); at_builtin; refine Kd.R_append_rows (Kd.int .i64) (w0 := w) w.heap.size rfl (.tmp 20) (.tmp 21) 25 3 (.int .i64 0) 8 rfl Tryd.underlying25 info3 rfl (by decide) (by omega) (.slice none 0 0) ([] : List Int) l1 _ _ _ (fun _ => True) (fun _ => False) rfl rfl ?aO ?aR (fun _ _ h => h) (fun _ h => h.elim) ?aF ?aB ?aS ?aL ?_; (case aR => repeat (first | exact HR1.out | (with_reducible refine Kd.C_alloc ?_ _) | (with_reducible refine Kd.C_drewN ?_ _) | (with_reducible refine Kd.C_drew ?_))); (case aB => exact (by repeat (first | (with_reducible first | exact HB.out | apply below_alloc | apply pw_below_drewN | apply below_drew1) | exact HB.out))); (case aF => exact (fun _ _ => trivial)); (case aO => exact ((Kd.R_nil _ _ _ _ (fun _ => True)))); (case aS => exact (below_size (by repeat (first | (with_reducible first | exact HB.out | apply below_alloc | apply pw_below_drewN | apply below_drew1) | exact HB.out)))); (case aL => have := LMc5.out; omega); intro v271 w9 ho hb hg hat; rw [← Ny270.out] at ho; have n0_ := Aside0.mk (hb); have n1_ := Aside0.mk (ho); clear HB; have HB := n0_; have HO272 := n1_; clear n0_ n1_; clear ho hb hg hat; obtain ⟨Ao10, co10, eo10⟩ := Kd.R_slice HO272.out; subst eo10) | ((with_reducible refine gate_callee (f := 8) rfl ?_); refine goesL_ (some 26) rfl rfl Tryd.func8 (by kernel_rfl) rfl #[.string a0, .slice Ao10 y270.length co10] rfl (by (try simp only [List.map_toArray, List.map_cons, List.map_nil]); first | done | rfl | (simp only [List.length_drop, List.length_take]; rfl)) ?_; (with_reducible refine (kind_Find.calls a0 _ _ y270 t273 t274 t275 _ ?side1 ?side2 (HTW0.out.below (by repeat (first | (with_reducible first | exact HB.out | apply below_alloc | apply pw_below_drewN | apply below_drew1 ) | exact HB.out))) A6.out).mono ?_); (case side1 => repeat (first | exact (Kd.R_reads' HO272.out).2.2 | (with_reducible refine Kd.C_alloc ?_ _) | (with_reducible refine Kd.C_drewN ?_ _) | (with_reducible refine Kd.C_drew ?_))); (case side2 => exact (Kd.R_reads' HO272.out).2.1); rintro e w11 ⟨rfl, hb⟩; refine ⟨_, rfl, ?_⟩; have n0_ := Aside0.mk (Kd.R_below (by (with_reducible repeat (first | apply Kd.R_alloc | apply Kd.R_drewN | apply Kd.R_drew)); exact HO272.out) hb); have n1_ := Aside0.mk (below_step (by repeat (first | (with_reducible first | exact HB.out | apply below_alloc | apply pw_below_drewN | apply below_drew1) | exact HB.out)) hb); clear HO272; clear HB; have HO272 := n0_; have HB := n1_; clear n0_ n1_; (try clear hb); (try clear hb2); (try clear hk); (try clear hi)) | ((with_reducible refine gate_callee (f := 11) rfl ?_); refine goesL_ (some 33) rfl rfl Tryd.func11 (by kernel_rfl) rfl #[.string a0, .slice A1 l1.length c1] rfl (by (try simp only [List.map_toArray, List.map_cons, List.map_nil]); first | done | rfl | (simp only [List.length_drop, List.length_take]; rfl)) ?_; (with_reducible refine (computusref23_Find.calls k a0 _ _ l1 t276 t277 t278 _ ?side1 ?side2 A7.out).mono ?_); (case side1 => repeat (first | exact (Kd.C_below HR1.out HB.out) | (with_reducible refine Kd.C_alloc ?_ _) | (with_reducible refine Kd.C_drewN ?_ _) | (with_reducible refine Kd.C_drew ?_))); (case side2 => exact HC1.out); rintro e w12 ⟨rfl, hb⟩; refine ⟨_, rfl, ?_⟩; have n0_ := Aside0.mk (Kd.R_below (by (with_reducible repeat (first | apply Kd.R_alloc | apply Kd.R_drewN | apply Kd.R_drew)); exact HO272.out) hb); have n1_ := Aside0.mk (below_step (by repeat (first | (with_reducible first | exact HB.out | apply below_alloc | apply pw_below_drewN | apply below_drew1) | exact HB.out)) hb); clear HO272; clear HB; have HO272 := n0_; have HB := n1_; clear n0_ n1_; (try clear hb); (try clear hb2); (try clear hk); (try clear hi)))
  (try simp only [Act.put, List.setIfInBounds_toArray, List.set_cons_zero, List.set_cons_succ])
  go_cut [63] (fun v63 wc => ∃ (kq : Nat) (x63_7 : Bool), v63 = .bool x63_7 ∧ Aside0 (computuslaw23_KindFinds.j0 kq l1 y270 x63_7 = some r) ∧ Aside0 (kq ≤ k) ∧ Aside0 (Kd.R (Kd.int .i64) 3 wc w.heap.size (fun _ => True) (.slice Ao10 y270.length co10) y270) ∧ Aside0 (Below w.heap.size w wc))
  case first =>
   have H := HC8.out
   clear HC8
   by_cases c13 : t273 = t276
   ·rw [if_pos c13] at H
    have c13b0 : (t273 == t276) = true := beq_iff_eq.mpr c13
    have c13b1 : (t273 != t276) = false := bne_eq_false_iff_eq.mpr c13
    clear c13
    (first | rw [c13b0] | (simp only [i64_w, i32_w]; rw [c13b0]) | skip)
    by_cases c14 : (t274 != t277) = true
    ·rw [if_pos c14] at H
     have c14b0 : (t274 != t277) = true := c14
     (try (have c14b1 : decide (t274 = t277) = false := by simpa using c14))
     (try (have c14b2 : (t274 == t277) = false := by simpa using c14))
     (try (have c14b3 : ¬ (t274 = t277) := by simpa using c14))
     clear c14
     have H' := Aside0.mk H
     clear H
     go_wp2
     go_meet
     case rel => exact ⟨_, (true), (by first | rfl | (simp; done) | (simp [*]; done)), H', ⟨by first | omega | exact Nat.le_refl _⟩, ⟨by (with_reducible repeat (first | apply Kd.R_alloc | apply Kd.R_drewN | apply Kd.R_drew)); exact HO272.out⟩, ⟨by repeat (first | (with_reducible first | exact HB.out | apply below_alloc | apply pw_below_drewN | apply below_drew1) | exact HB.out)⟩⟩
    ·rw [if_neg c14] at H
     have c14b0 : (t274 != t277) = false := by simpa using c14
     (try (have c14b1 : decide (t274 = t277) = true := by simpa using c14))
     (try (have c14b2 : (t274 == t277) = true := by simpa using c14))
     clear c14
     by_cases c15 : (t275 != t278) = true
     ·rw [if_pos c15] at H
      have c15b0 : (t275 != t278) = true := c15
      (try (have c15b1 : decide (t275 = t278) = false := by simpa using c15))
      (try (have c15b2 : (t275 == t278) = false := by simpa using c15))
      (try (have c15b3 : ¬ (t275 = t278) := by simpa using c15))
      clear c15
      have H' := Aside0.mk H
      clear H
      go_wp2
      go_meet
      case rel => exact ⟨_, (true), (by first | rfl | (simp; done) | (simp [*]; done)), H', ⟨by first | omega | exact Nat.le_refl _⟩, ⟨by (with_reducible repeat (first | apply Kd.R_alloc | apply Kd.R_drewN | apply Kd.R_drew)); exact HO272.out⟩, ⟨by repeat (first | (with_reducible first | exact HB.out | apply below_alloc | apply pw_below_drewN | apply below_drew1) | exact HB.out)⟩⟩
     ·rw [if_neg c15] at H
      have c15b0 : (t275 != t278) = false := by simpa using c15
      (try (have c15b1 : decide (t275 = t278) = true := by simpa using c15))
      (try (have c15b2 : (t275 == t278) = true := by simpa using c15))
      clear c15
      replace H := Option.bind_eq_some_iff.mp H
      obtain ⟨t279, A160, H⟩ := H
      replace H : ((computusref23_Name.f a2).bind fun t280 => (if t279.toList = t280.toList then ((kind_Kind.f k a3).bind fun t281 => ((computusref23_Kind.f k a3).bind fun t282 => (computuslaw23_KindFinds.j0 k l1 y270 (t281 != t282)))) else (computuslaw23_KindFinds.j0 k l1 y270 true))) = some r := H
      have A16 := Aside0.mk A160
      clear A160
      replace H := Option.bind_eq_some_iff.mp H
      obtain ⟨t280, A170, H⟩ := H
      replace H : (if t279.toList = t280.toList then ((kind_Kind.f k a3).bind fun t281 => ((computusref23_Kind.f k a3).bind fun t282 => (computuslaw23_KindFinds.j0 k l1 y270 (t281 != t282)))) else (computuslaw23_KindFinds.j0 k l1 y270 true)) = some r := H
      have A17 := Aside0.mk A170
      clear A170
      by_cases c18 : t279.toList = t280.toList
      ·rw [if_pos c18] at H
       have c18b0 : (t279.toList == t280.toList) = true := beq_iff_eq.mpr c18
       have c18b1 : (t279.toList != t280.toList) = false := bne_eq_false_iff_eq.mpr c18
       clear c18
       replace H := Option.bind_eq_some_iff.mp H
       obtain ⟨t281, A190, H⟩ := H
       replace H : ((computusref23_Kind.f k a3).bind fun t282 => (computuslaw23_KindFinds.j0 k l1 y270 (t281 != t282))) = some r := H
       have A19 := Aside0.mk A190
       clear A190
       replace H := Option.bind_eq_some_iff.mp H
       obtain ⟨t282, A200, H⟩ := H
       replace H : (computuslaw23_KindFinds.j0 k l1 y270 (t281 != t282)) = some r := H
       have A20 := Aside0.mk A200
       clear A200
       have H' := Aside0.mk H
       clear H
       go_wp2_with (first | (go_at_call 10; (with_reducible refine (kind_Name.calls a2 t279 _ A16.out).mono ?_); rintro e w21 ⟨rfl, hb⟩; have n0_ := Aside0.mk (Kd.R_below (by (with_reducible repeat (first | apply Kd.R_alloc | apply Kd.R_drewN | apply Kd.R_drew)); exact HO272.out) hb); have n1_ := Aside0.mk (below_step (by repeat (first | (with_reducible first | exact HB.out | apply below_alloc | apply pw_below_drewN | apply below_drew1) | exact HB.out)) hb); clear HO272; clear HB; have HO272 := n0_; have HB := n1_; clear n0_ n1_; (try clear hb); (try clear hb2); (try clear hk); (try clear hi)) | (go_at_call 12; (with_reducible refine (computusref23_Name.calls a2 t280 _ A17.out).mono ?_); rintro e w22 ⟨rfl, hb⟩; have n0_ := Aside0.mk (Kd.R_below (by (with_reducible repeat (first | apply Kd.R_alloc | apply Kd.R_drewN | apply Kd.R_drew)); exact HO272.out) hb); have n1_ := Aside0.mk (below_step (by repeat (first | (with_reducible first | exact HB.out | apply below_alloc | apply pw_below_drewN | apply below_drew1) | exact HB.out)) hb); clear HO272; clear HB; have HO272 := n0_; have HB := n1_; clear n0_ n1_; (try clear hb); (try clear hb2); (try clear hk); (try clear hi)) | (go_at_call 13; (with_reducible refine (kind_Kind.calls k a3 t281 _ A19.out).mono ?_); rintro e w23 ⟨rfl, hb⟩; have n0_ := Aside0.mk (Kd.R_below (by (with_reducible repeat (first | apply Kd.R_alloc | apply Kd.R_drewN | apply Kd.R_drew)); exact HO272.out) hb); have n1_ := Aside0.mk (below_step (by repeat (first | (with_reducible first | exact HB.out | apply below_alloc | apply pw_below_drewN | apply below_drew1) | exact HB.out)) hb); clear HO272; clear HB; have HO272 := n0_; have HB := n1_; clear n0_ n1_; (try clear hb); (try clear hb2); (try clear hk); (try clear hi)) | (go_at_call 14; (with_reducible refine (computusref23_Kind.calls k a3 t282 _ A20.out).mono ?_); rintro e w24 ⟨rfl, hb⟩; have n0_ := Aside0.mk (Kd.R_below (by (with_reducible repeat (first | apply Kd.R_alloc | apply Kd.R_drewN | apply Kd.R_drew)); exact HO272.out) hb); have n1_ := Aside0.mk (below_step (by repeat (first | (with_reducible first | exact HB.out | apply below_alloc | apply pw_below_drewN | apply below_drew1) | exact HB.out)) hb); clear HO272; clear HB; have HO272 := n0_; have HB := n1_; clear n0_ n1_; (try clear hb); (try clear hb2); (try clear hk); (try clear hi)))
       go_meet
       case rel => exact ⟨_, ((t281 != t282)), (by first | rfl | (simp; done) | (simp [*]; done)), H', ⟨by first | omega | exact Nat.le_refl _⟩, ⟨by (with_reducible repeat (first | apply Kd.R_alloc | apply Kd.R_drewN | apply Kd.R_drew)); exact HO272.out⟩, ⟨by repeat (first | (with_reducible first | exact HB.out | apply below_alloc | apply pw_below_drewN | apply below_drew1) | exact HB.out)⟩⟩
      ·rw [if_neg c18] at H
       have c18b0 : (t279.toList == t280.toList) = false := beq_eq_false_iff_ne.mpr c18
       have c18b1 : (t279.toList != t280.toList) = true := bne_iff_ne.mpr c18
       have H' := Aside0.mk H
       clear H
       go_wp2_with (first | (go_at_call 10; (with_reducible refine (kind_Name.calls a2 t279 _ A16.out).mono ?_); rintro e w25 ⟨rfl, hb⟩; have n0_ := Aside0.mk (Kd.R_below (by (with_reducible repeat (first | apply Kd.R_alloc | apply Kd.R_drewN | apply Kd.R_drew)); exact HO272.out) hb); have n1_ := Aside0.mk (below_step (by repeat (first | (with_reducible first | exact HB.out | apply below_alloc | apply pw_below_drewN | apply below_drew1) | exact HB.out)) hb); clear HO272; clear HB; have HO272 := n0_; have HB := n1_; clear n0_ n1_; (try clear hb); (try clear hb2); (try clear hk); (try clear hi)) | (go_at_call 12; (with_reducible refine (computusref23_Name.calls a2 t280 _ A17.out).mono ?_); rintro e w26 ⟨rfl, hb⟩; have n0_ := Aside0.mk (Kd.R_below (by (with_reducible repeat (first | apply Kd.R_alloc | apply Kd.R_drewN | apply Kd.R_drew)); exact HO272.out) hb); have n1_ := Aside0.mk (below_step (by repeat (first | (with_reducible first | exact HB.out | apply below_alloc | apply pw_below_drewN | apply below_drew1) | exact HB.out)) hb); clear HO272; clear HB; have HO272 := n0_; have HB := n1_; clear n0_ n1_; (try clear hb); (try clear hb2); (try clear hk); (try clear hi)))
       go_meet
       case rel => exact ⟨_, (true), (by first | rfl | (simp; done) | (simp [*]; done)), H', ⟨by first | omega | exact Nat.le_refl _⟩, ⟨by (with_reducible repeat (first | apply Kd.R_alloc | apply Kd.R_drewN | apply Kd.R_drew)); exact HO272.out⟩, ⟨by repeat (first | (with_reducible first | exact HB.out | apply below_alloc | apply pw_below_drewN | apply below_drew1) | exact HB.out)⟩⟩
   ·rw [if_neg c13] at H
    have c13b0 : (t273 == t276) = false := beq_eq_false_iff_ne.mpr c13
    have c13b1 : (t273 != t276) = true := bne_iff_ne.mpr c13
    (first | rw [c13b0] | (simp only [i64_w, i32_w]; rw [c13b0]) | skip)
    have H' := Aside0.mk H
    clear H
    go_wp2
    go_meet
    case rel => exact ⟨_, (true), (by first | rfl | (simp; done) | (simp [*]; done)), H', ⟨by first | omega | exact Nat.le_refl _⟩, ⟨by (with_reducible repeat (first | apply Kd.R_alloc | apply Kd.R_drewN | apply Kd.R_drew)); exact HO272.out⟩, ⟨by repeat (first | (with_reducible first | exact HB.out | apply below_alloc | apply pw_below_drewN | apply below_drew1) | exact HB.out)⟩⟩
  case rest =>
   clear HC8
   try clear c1
   try clear p2
   try clear c5
   try clear c8
   try clear c11
   try clear c13
   try clear c13b0
   try clear c13b1
   try clear c14
   try clear c14b0
   try clear c14b1
   try clear c14b2
   try clear c15
   try clear c15b0
   try clear c15b1
   try clear c15b2
   try clear c18
   try clear c18b0
   try clear c18b1
   obtain ⟨kq, x63_7, rfl, HA, HJ7, HO_9, HB⟩ := hcut
   cases kq with
   | zero => exact absurd HA.out (by simp [computuslaw23_KindFinds.j0])
   | succ kj7 =>
    have H := HA.out
    clear HA
    simp only [computuslaw23_KindFinds.j0] at H
    by_cases c27 : x63_7 = true
    ·subst c27
     have H1 : (some false) = some r := by rw [if_pos rfl] at H; exact H
     clear H
     have H := H1
     clear H1
     obtain rfl := Option.some.inj H
     go_wp2
     go_ret
     exact ⟨by first | rfl | (simp [errW_none, errW_some] <;> rfl) | (simp [*, errW_none, errW_some] <;> rfl), by repeat (first | (with_reducible first | exact HB.out | apply below_alloc | apply pw_below_drewN | apply below_drew1) | exact HB.out)⟩
    ·replace c27 := Bool.eq_false_iff.mpr c27
     subst c27
     have H1 : (computuslaw23_KindFinds.l0 kj7 l1 y270 0) = some r := by rw [if_neg (show ¬ (false = true) by decide)] at H; exact H
     clear H
     have H := H1
     clear H1
     have H' := Aside0.mk H
     clear H
     go_wp2
     go_loopg [16] kj7 (fun kq v16 w' => ∃ (x16_2 : Int), v16 = .int .i64 x16_2 ∧ Aside0 (computuslaw23_KindFinds.l0 kq l1 y270 x16_2 = some r) ∧ Aside0 (kq ≤ kj7) ∧ Aside0 (Kd.R (Kd.int .i64) 3 w' w.heap.size (fun _ => True) (.slice Ao10 y270.length co10) y270) ∧ Aside0 (Below w.heap.size w w'))
     case atStart => exact ⟨(0), (by first | rfl | (simp; done) | (simp [*]; done)), H', ⟨Nat.le_refl _⟩, ⟨by (with_reducible repeat (first | apply Kd.R_alloc | apply Kd.R_drewN | apply Kd.R_drew)); exact HO_9.out⟩, ⟨by repeat (first | (with_reducible first | exact HB.out | apply below_alloc | apply pw_below_drewN | apply below_drew1) | exact HB.out)⟩⟩
     case round =>
      clear H'
      try clear c1
      try clear c2
      try clear p2
      try clear c5
      try clear c8
      try clear c11
      try clear c13
      try clear c13b0
      try clear c13b1
      try clear c14
      try clear c14b0
      try clear c14b1
      try clear c14b2
      try clear c15
      try clear c15b0
      try clear c15b1
      try clear c15b2
      try clear c18
      try clear c18b0
      try clear c18b1
      try clear c27
      try clear p2
      obtain ⟨x16_2, rfl, HA, HK2, HO_9, HB⟩ := hrel
      cases gk with
      | zero => exact absurd HA.out (by simp [computuslaw23_KindFinds.l0])
      | succ k2 =>
       have H := HA.out
       clear HA
       simp only [computuslaw23_KindFinds.l0] at H
       by_cases c28 : x16_2 < (l1.length : Int)
       ·rw [if_pos c28] at H
        have c28b0 : decide (x16_2 < (l1.length : Int)) = true := decide_eq_true c28
        clear c28
        by_cases c29 : 0 ≤ x16_2
        ·rw [if_pos c29] at H
         have c29b0 : decide (0 ≤ x16_2) = true := decide_eq_true c29
         clear c29
         by_cases c30 : x16_2 < (y270.length : Int)
         ·rw [if_pos c30] at H
          have c30b0 : decide (x16_2 < (y270.length : Int)) = true := decide_eq_true c30
          clear c30
          by_cases c31 : (rd y270 x16_2) = (rd l1 x16_2)
          ·rw [if_pos c31] at H
           have c31b0 : ((rd y270 x16_2) == (rd l1 x16_2)) = true := beq_iff_eq.mpr c31
           have c31b1 : ((rd y270 x16_2) != (rd l1 x16_2)) = false := bne_eq_false_iff_eq.mpr c31
           clear c31
           have H' := Aside0.mk H
           clear H
           try go_wp2
           have n0_ := Aside0.mk (Kd.R_drew HO_9.out)
           have n1_ := Aside0.mk (below_drew1 HB.out)
           clear HO_9
           clear HB
           have HO_9 := n0_
           have HB := n1_
           clear n0_ n1_
           have p283 : 0 ≤ (x16_2 : Int) := of_decide_eq_true (by first | (with_reducible assumption) | assumption)
           have q283 : x16_2 < (y270.length : Int) := of_decide_eq_true (by first | (with_reducible assumption) | assumption)
           obtain ⟨ad283, e283, hx283_0⟩ := Kd.at_int (Kd.R_reads' HO_9.out).2.2 x16_2 p283 q283
           cases e283
           replace p283 := eq_true p283
           replace q283 := eq_true q283
           have p284 : 0 ≤ (x16_2 : Int) := of_decide_eq_true (by first | (with_reducible assumption) | assumption)
           have q284 : x16_2 < (l1.length : Int) := of_decide_eq_true (by first | (with_reducible assumption) | assumption)
           obtain ⟨ad284, e284, hx284_0⟩ := Kd.at_int HR1.out x16_2 p284 q284
           have hw284_0 := hx284_0
           cases e284
           replace hx284_0 := (HB.out.cell (World.block_lt_of_cell? w _ hx284_0)).trans hx284_0
           replace p284 := eq_true p284
           replace q284 := eq_true q284
           refine start_ (n := 9) (S := fun w' => w'.cell? (ad283.add (x16_2).toNat) = some (.int .i64 (rd y270 x16_2)) ∧ w'.cell? (ad284.add (x16_2).toNat) = some (.int .i64 (rd l1 x16_2))) (ds := []) #[false, false, false, false, false, false, false, false, false] (by kernel_rfl) rfl rfl ⟨hx283_0, ((HB.out.cell (World.block_lt_of_cell? w _ hw284_0)).trans hw284_0)⟩ (fun hHeld => ?_); refine with_tabW computuslaw23_KindFinds.tab10 computuslaw23_KindFinds.bits10 (fun HT_ HW_ => ?_)
           generalize wr.drew = w32 at HO_9 HB hx283_0 hx284_0 hHeld ⊢
           refine pure_ (i := 0) (N := some 70) (v := ?_) (a' := ?_) #[true, false, false, false, false, false, false, false, false] rfl rfl (any_of HT_.out (by kernel_rfl)) (fun _ _ _ h => h) (Or.inl ⟨by rfl, ?_⟩) ?_ ?_
           rotate_left
           ·intro w'
            go_simp
            with_reducible rfl
           rotate_left
           ·simp only [Act.put, List.setIfInBounds_toArray, List.set_cons_zero, List.set_cons_succ, i64_w, i32_w]
            rfl
           refine pure_ (i := 1) (N := some 71) (v := ?_) (a' := ?_) #[true, true, false, false, false, false, false, false, false] rfl rfl (any_of HT_.out (by kernel_rfl)) (fun _ _ _ h => h) (Or.inl ⟨by rfl, ?_⟩) ?_ ?_
           rotate_left
           ·intro w'
            go_simp
            with_reducible rfl
           rotate_left
           ·simp only [Act.put, List.setIfInBounds_toArray, List.set_cons_zero, List.set_cons_succ, i64_w, i32_w]
            rfl
           refine pure_ (i := 2) (N := some 72) (v := ?_) (a' := ?_) #[true, true, true, false, false, false, false, false, false] rfl rfl (any_of HT_.out (by kernel_rfl)) (fun _ _ _ h => h) (Or.inl ⟨by rfl, ?_⟩) ?_ ?_
           rotate_left
           ·intro w'
            go_simp
            with_reducible rfl
           rotate_left
           ·simp only [Act.put, List.setIfInBounds_toArray, List.set_cons_zero, List.set_cons_succ, i64_w, i32_w]
            rfl
           refine pure_ (i := 4) (N := some 74) (v := ?_) (a' := ?_) #[true, true, true, false, true, false, false, false, false] rfl rfl (any_of HT_.out (by kernel_rfl)) (fun _ _ _ h => h) (Or.inl ⟨by rfl, ?_⟩) ?_ ?_
           rotate_left
           ·intro w'
            go_simp
            with_reducible rfl
           rotate_left
           ·simp only [Act.put, List.setIfInBounds_toArray, List.set_cons_zero, List.set_cons_succ, i64_w, i32_w]
            rfl
           refine pure_ (i := 5) (N := some 75) (v := ?_) (a' := ?_) #[true, true, true, false, true, true, false, false, false] rfl rfl (any_of HT_.out (by kernel_rfl)) (fun _ _ _ h => h) (Or.inl ⟨by rfl, ?_⟩) ?_ ?_
           rotate_left
           ·intro w'
            go_simp
            with_reducible rfl
           rotate_left
           ·simp only [Act.put, List.setIfInBounds_toArray, List.set_cons_zero, List.set_cons_succ, i64_w, i32_w]
            rfl
           refine pure_ (i := 6) (N := some 76) (v := ?_) (a' := ?_) #[true, true, true, false, true, true, true, false, false] rfl rfl (any_of HT_.out (by kernel_rfl)) (fun _ _ _ h => h) (Or.inl ⟨by rfl, ?_⟩) ?_ ?_
           rotate_left
           ·intro w'
            go_simp
            with_reducible rfl
           rotate_left
           ·simp only [Act.put, List.setIfInBounds_toArray, List.set_cons_zero, List.set_cons_succ, i64_w, i32_w]
            rfl
           refine take_ (i := 3) (N := some 73) (v := ?_) (a' := ?_) #[true, true, true, true, true, true, true, false, false] rfl rfl (take_ofW HT_.out HW_.out (by kernel_rfl)) (fun _ _ _ h => h) (Or.inl ⟨by rfl, ?_⟩) hHeld ?_ ?_
           rotate_left
           ·rintro w' ⟨s0, s1⟩
            go_simp
            with_reducible rfl
           rotate_left
           ·simp only [Act.put, List.setIfInBounds_toArray, List.set_cons_zero, List.set_cons_succ, i64_w, i32_w]
            rfl
           refine take_ (i := 7) (N := some 77) (v := ?_) (a' := ?_) #[true, true, true, true, true, true, true, true, false] rfl rfl (take_ofW HT_.out HW_.out (by kernel_rfl)) (fun _ _ _ h => h) (Or.inl ⟨by rfl, ?_⟩) hHeld ?_ ?_
           rotate_left
           ·rintro w' ⟨s0, s1⟩
            go_simp
            with_reducible rfl
           rotate_left
           ·simp only [Act.put, List.setIfInBounds_toArray, List.set_cons_zero, List.set_cons_succ, i64_w, i32_w]
            rfl
           refine pure_ (i := 8) (N := some 78) (v := ?_) (a' := ?_) #[true, true, true, true, true, true, true, true, true] rfl rfl (any_of HT_.out (by kernel_rfl)) (fun _ _ _ h => h) (Or.inl ⟨by rfl, ?_⟩) ?_ ?_
           rotate_left
           ·intro w'
            go_simp
            with_reducible rfl
           rotate_left
           ·simp only [Act.put, List.setIfInBounds_toArray, List.set_cons_zero, List.set_cons_succ, i64_w, i32_w]
            rfl
           refine done_ (done_of HT_.out (by kernel_rfl)) ?_
           try go_wp2
           go_roundg k2
           case measure => have := HJ7.out; have := HK2.out; omega
           case rel => exact ⟨(wrap64 (x16_2 + 1)), (by first | rfl | (simp; done) | (simp [*]; done)), H', ⟨by have := HJ7.out; have := HK2.out; omega⟩, ⟨by (with_reducible repeat (first | apply Kd.R_alloc | apply Kd.R_drewN | apply Kd.R_drew)); exact HO_9.out⟩, ⟨by repeat (first | (with_reducible first | exact HB.out | apply below_alloc | apply pw_below_drewN | apply below_drew1) | exact HB.out)⟩⟩
          ·rw [if_neg c31] at H
           have c31b0 : ((rd y270 x16_2) == (rd l1 x16_2)) = false := beq_eq_false_iff_ne.mpr c31
           have c31b1 : ((rd y270 x16_2) != (rd l1 x16_2)) = true := bne_iff_ne.mpr c31
           obtain rfl := Option.some.inj H
           try go_wp2
           have n0_ := Aside0.mk (Kd.R_drew HO_9.out)
           have n1_ := Aside0.mk (below_drew1 HB.out)
           clear HO_9
           clear HB
           have HO_9 := n0_
           have HB := n1_
           clear n0_ n1_
           have p283 : 0 ≤ (x16_2 : Int) := of_decide_eq_true (by first | (with_reducible assumption) | assumption)
           have q283 : x16_2 < (y270.length : Int) := of_decide_eq_true (by first | (with_reducible assumption) | assumption)
           obtain ⟨ad283, e283, hx283_0⟩ := Kd.at_int (Kd.R_reads' HO_9.out).2.2 x16_2 p283 q283
           cases e283
           replace p283 := eq_true p283
           replace q283 := eq_true q283
           have p284 : 0 ≤ (x16_2 : Int) := of_decide_eq_true (by first | (with_reducible assumption) | assumption)
           have q284 : x16_2 < (l1.length : Int) := of_decide_eq_true (by first | (with_reducible assumption) | assumption)
           obtain ⟨ad284, e284, hx284_0⟩ := Kd.at_int HR1.out x16_2 p284 q284
           have hw284_0 := hx284_0
           cases e284
           replace hx284_0 := (HB.out.cell (World.block_lt_of_cell? w _ hx284_0)).trans hx284_0
           replace p284 := eq_true p284
           replace q284 := eq_true q284
           refine start_ (n := 9) (S := fun w' => w'.cell? (ad283.add (x16_2).toNat) = some (.int .i64 (rd y270 x16_2)) ∧ w'.cell? (ad284.add (x16_2).toNat) = some (.int .i64 (rd l1 x16_2))) (ds := []) #[false, false, false, false, false, false, false, false, false] (by kernel_rfl) rfl rfl ⟨hx283_0, ((HB.out.cell (World.block_lt_of_cell? w _ hw284_0)).trans hw284_0)⟩ (fun hHeld => ?_); refine with_tabW computuslaw23_KindFinds.tab10 computuslaw23_KindFinds.bits10 (fun HT_ HW_ => ?_)
           generalize wr.drew = w33 at HO_9 HB hx283_0 hx284_0 hHeld ⊢
           refine pure_ (i := 0) (N := some 70) (v := ?_) (a' := ?_) #[true, false, false, false, false, false, false, false, false] rfl rfl (any_of HT_.out (by kernel_rfl)) (fun _ _ _ h => h) (Or.inl ⟨by rfl, ?_⟩) ?_ ?_
           rotate_left
           ·intro w'
            go_simp
            with_reducible rfl
           rotate_left
           ·simp only [Act.put, List.setIfInBounds_toArray, List.set_cons_zero, List.set_cons_succ, i64_w, i32_w]
            rfl
           refine pure_ (i := 1) (N := some 71) (v := ?_) (a' := ?_) #[true, true, false, false, false, false, false, false, false] rfl rfl (any_of HT_.out (by kernel_rfl)) (fun _ _ _ h => h) (Or.inl ⟨by rfl, ?_⟩) ?_ ?_
           rotate_left
           ·intro w'
            go_simp
            with_reducible rfl
           rotate_left
           ·simp only [Act.put, List.setIfInBounds_toArray, List.set_cons_zero, List.set_cons_succ, i64_w, i32_w]
            rfl
           refine pure_ (i := 2) (N := some 72) (v := ?_) (a' := ?_) #[true, true, true, false, false, false, false, false, false] rfl rfl (any_of HT_.out (by kernel_rfl)) (fun _ _ _ h => h) (Or.inl ⟨by rfl, ?_⟩) ?_ ?_
           rotate_left
           ·intro w'
            go_simp
            with_reducible rfl
           rotate_left
           ·simp only [Act.put, List.setIfInBounds_toArray, List.set_cons_zero, List.set_cons_succ, i64_w, i32_w]
            rfl
           refine pure_ (i := 4) (N := some 74) (v := ?_) (a' := ?_) #[true, true, true, false, true, false, false, false, false] rfl rfl (any_of HT_.out (by kernel_rfl)) (fun _ _ _ h => h) (Or.inl ⟨by rfl, ?_⟩) ?_ ?_
           rotate_left
           ·intro w'
            go_simp
            with_reducible rfl
           rotate_left
           ·simp only [Act.put, List.setIfInBounds_toArray, List.set_cons_zero, List.set_cons_succ, i64_w, i32_w]
            rfl
           refine pure_ (i := 5) (N := some 75) (v := ?_) (a' := ?_) #[true, true, true, false, true, true, false, false, false] rfl rfl (any_of HT_.out (by kernel_rfl)) (fun _ _ _ h => h) (Or.inl ⟨by rfl, ?_⟩) ?_ ?_
           rotate_left
           ·intro w'
            go_simp
            with_reducible rfl
           rotate_left
           ·simp only [Act.put, List.setIfInBounds_toArray, List.set_cons_zero, List.set_cons_succ, i64_w, i32_w]
            rfl
           refine pure_ (i := 6) (N := some 76) (v := ?_) (a' := ?_) #[true, true, true, false, true, true, true, false, false] rfl rfl (any_of HT_.out (by kernel_rfl)) (fun _ _ _ h => h) (Or.inl ⟨by rfl, ?_⟩) ?_ ?_
           rotate_left
           ·intro w'
            go_simp
            with_reducible rfl
           rotate_left
           ·simp only [Act.put, List.setIfInBounds_toArray, List.set_cons_zero, List.set_cons_succ, i64_w, i32_w]
            rfl
           refine take_ (i := 3) (N := some 73) (v := ?_) (a' := ?_) #[true, true, true, true, true, true, true, false, false] rfl rfl (take_ofW HT_.out HW_.out (by kernel_rfl)) (fun _ _ _ h => h) (Or.inl ⟨by rfl, ?_⟩) hHeld ?_ ?_
           rotate_left
           ·rintro w' ⟨s0, s1⟩
            go_simp
            with_reducible rfl
           rotate_left
           ·simp only [Act.put, List.setIfInBounds_toArray, List.set_cons_zero, List.set_cons_succ, i64_w, i32_w]
            rfl
           refine take_ (i := 7) (N := some 77) (v := ?_) (a' := ?_) #[true, true, true, true, true, true, true, true, false] rfl rfl (take_ofW HT_.out HW_.out (by kernel_rfl)) (fun _ _ _ h => h) (Or.inl ⟨by rfl, ?_⟩) hHeld ?_ ?_
           rotate_left
           ·rintro w' ⟨s0, s1⟩
            go_simp
            with_reducible rfl
           rotate_left
           ·simp only [Act.put, List.setIfInBounds_toArray, List.set_cons_zero, List.set_cons_succ, i64_w, i32_w]
            rfl
           refine pure_ (i := 8) (N := some 78) (v := ?_) (a' := ?_) #[true, true, true, true, true, true, true, true, true] rfl rfl (any_of HT_.out (by kernel_rfl)) (fun _ _ _ h => h) (Or.inl ⟨by rfl, ?_⟩) ?_ ?_
           rotate_left
           ·intro w'
            go_simp
            with_reducible rfl
           rotate_left
           ·simp only [Act.put, List.setIfInBounds_toArray, List.set_cons_zero, List.set_cons_succ, i64_w, i32_w]
            rfl
           refine done_ (done_of HT_.out (by kernel_rfl)) ?_
           try go_wp2
           go_ret
           exact ⟨by first | rfl | (simp [errW_none, errW_some] <;> rfl) | (simp [*, errW_none, errW_some] <;> rfl), by repeat (first | (with_reducible first | exact HB.out | apply below_alloc | apply pw_below_drewN | apply below_drew1) | exact HB.out)⟩
         ·rw [if_neg c30] at H
          exact absurd H (by simp)
        ·rw [if_neg c29] at H
         exact absurd H (by simp)
       ·rw [if_neg c28] at H
        have c28b0 : decide (x16_2 < (l1.length : Int)) = false := decide_eq_false c28
        clear c28
        replace H := Option.bind_eq_some_iff.mp H
        obtain ⟨t285, A340, H⟩ := H
        replace H : ((computusref23_Ops.f k2).bind fun t288 => (if (t285.length : Int) = (t288.length : Int) then (computuslaw23_KindFinds.l1 k2 t285 t288 0) else (some false))) = some r := H
        have A34 := Aside0.mk A340
        clear A340
        replace H := Option.bind_eq_some_iff.mp H
        obtain ⟨t288, A350, H⟩ := H
        replace H : (if (t285.length : Int) = (t288.length : Int) then (computuslaw23_KindFinds.l1 k2 t285 t288 0) else (some false)) = some r := H
        have A35 := Aside0.mk A350
        clear A350
        by_cases c36 : (t285.length : Int) = (t288.length : Int)
        ·rw [if_pos c36] at H
         have c36b0 : ((t285.length : Int) == (t288.length : Int)) = true := beq_iff_eq.mpr c36
         have c36b1 : ((t285.length : Int) != (t288.length : Int)) = false := bne_eq_false_iff_eq.mpr c36
         have c36b2 : (t285.length == t288.length) = true := by first | simpa using c36 | (simp at c36 ⊢; omega)
         clear c36
         have H' := Aside0.mk H
         clear H
         go_wp2_with (first | ((with_reducible refine gate_callee (f := 15) rfl ?_); refine goesL_ (some 79) rfl rfl Tryd.func15 (by kernel_rfl) rfl #[] rfl (by (try simp only [List.map_toArray, List.map_cons, List.map_nil]); first | done | rfl | (simp only [List.length_drop, List.length_take]; rfl)) ?_; (with_reducible refine (kind_Ops.calls k2  t285 _ A34.out).mono ?_); rintro e w37 ⟨v286, rfl, ho0, hb⟩; refine ⟨_, rfl, ?_⟩; have n0_ := Aside0.mk (Kd.R_below (by (with_reducible repeat (first | apply Kd.R_alloc | apply Kd.R_drewN | apply Kd.R_drew)); exact HO_9.out) hb); have n1_ := Aside0.mk (Kd.R_lower ho0 (below_size (by repeat (first | (with_reducible first | exact HB.out | apply below_alloc | apply pw_below_drewN | apply below_drew1) | exact HB.out)))); have n2_ := Aside0.mk (below_step (by repeat (first | (with_reducible first | exact HB.out | apply below_alloc | apply pw_below_drewN | apply below_drew1) | exact HB.out)) hb); clear HO_9; clear HB; have HO_9 := n0_; have HO287 := n1_; have HB := n2_; clear n0_ n1_ n2_; (try clear hb); (try clear hb2); (try clear hk); (try clear hi); (try clear ho0)) | ((with_reducible refine gate_callee (f := 16) rfl ?_); refine goesL_ (some 80) rfl rfl Tryd.func16 (by kernel_rfl) rfl #[] rfl (by (try simp only [List.map_toArray, List.map_cons, List.map_nil]); first | done | rfl | (simp only [List.length_drop, List.length_take]; rfl)) ?_; (with_reducible refine (computusref23_Ops.calls k2  t288 _ A35.out).mono ?_); rintro e w38 ⟨v289, rfl, ho0, hb⟩; refine ⟨_, rfl, ?_⟩; have n0_ := Aside0.mk (Kd.R_below (by (with_reducible repeat (first | apply Kd.R_alloc | apply Kd.R_drewN | apply Kd.R_drew)); exact HO_9.out) hb); have n1_ := Aside0.mk (Kd.R_elder' (by (with_reducible repeat (first | apply Kd.R_alloc | apply Kd.R_drewN | apply Kd.R_drew)); exact HO287.out) (Kd.R_base ho0) hb); have n2_ := Aside0.mk (Kd.R_lower (Kd.R_new' ho0 (Kd.R_lt (by (with_reducible repeat (first | apply Kd.R_alloc | apply Kd.R_drewN | apply Kd.R_drew)); exact HO287.out))) (below_size (by repeat (first | (with_reducible first | exact HB.out | apply below_alloc | apply pw_below_drewN | apply below_drew1) | exact HB.out)))); have n3_ := Aside0.mk (below_step (by repeat (first | (with_reducible first | exact HB.out | apply below_alloc | apply pw_below_drewN | apply below_drew1) | exact HB.out)) hb); clear HO_9; clear HO287; clear HB; have HO_9 := n0_; have HO287 := n1_; have HO290 := n2_; have HB := n3_; clear n0_ n1_ n2_ n3_; (try clear hb); (try clear hb2); (try clear hk); (try clear hi); (try clear ho0); obtain ⟨Ao39, co39, eo39⟩ := Kd.R_slice HO287.out; subst eo39; obtain ⟨Ao40, co40, eo40⟩ := Kd.R_slice HO290.out; subst eo40))
         go_loopg [19] k2 (fun kq v19 w' => ∃ (x17_3 : List ByteArray) (x19_3 : Int), v19 = .int .i64 x19_3 ∧ Aside0 (computuslaw23_KindFinds.l1 kq x17_3 t288 x19_3 = some r) ∧ Aside0 (kq ≤ k2) ∧ Aside0 (Kd.R Kd.string 9 w' w.heap.size (fun k_ => some k_ ≠ ((.slice Ao40 t288.length co40) : Value).ownBlock) (.slice Ao39 t285.length co39) x17_3) ∧ Aside0 (Kd.R Kd.string 9 w' w.heap.size (fun k_ => some k_ ≠ ((.slice Ao39 t285.length co39) : Value).ownBlock) (.slice Ao40 t288.length co40) t288) ∧ Aside0 (Below w.heap.size w w'))
         case atStart => exact ⟨(t285), (0), (by first | rfl | (simp; done) | (simp [*]; done)), H', ⟨Nat.le_refl _⟩, ⟨by (with_reducible repeat (first | apply Kd.R_alloc | apply Kd.R_drewN | apply Kd.R_drew)); exact Kd.R_mono HO287.out (fun _ hk => hk.2)⟩, ⟨by (with_reducible repeat (first | apply Kd.R_alloc | apply Kd.R_drewN | apply Kd.R_drew)); exact Kd.R_mono HO290.out (fun _ hk => hk.2)⟩, ⟨by repeat (first | (with_reducible first | exact HB.out | apply below_alloc | apply pw_below_drewN | apply below_drew1) | exact HB.out)⟩⟩
         case round =>
          clear H'
          try clear c1
          try clear c2
          try clear p2
          try clear q2
          try clear hx2
          try clear c3
          try clear c5
          try clear p6
          try clear c8
          try clear c11
          try clear c13
          try clear c13b0
          try clear c13b1
          try clear c14
          try clear c14b0
          try clear c14b1
          try clear c14b2
          try clear c15
          try clear c15b0
          try clear c15b1
          try clear c15b2
          try clear c16
          try clear c18
          try clear c18b0
          try clear c18b1
          try clear c27
          try clear c28
          try clear c28b0
          try clear p28
          try clear q28
          try clear hx28
          try clear c29
          try clear c29b0
          try clear c30
          try clear c30b0
          try clear c31
          try clear c31b0
          try clear c31b1
          try clear c36
          try clear c36b0
          try clear c36b1
          try clear c36b2
          try clear hx283_0
          try clear hx284_0
          try clear p2
          try clear p283
          try clear p284
          try clear q283
          try clear q284
          obtain ⟨x17_3, x19_3, rfl, HA, HK3, HO_17, HO_18, HB⟩ := hrel
          have hl17_3 := (Kd.R_reads' HO_17.out).1
          rw [hl17_3] at HO_17
          (try simp only [hl17_3])
          (try simp only [hl17_3] at HO_18)
          cases gk with
          | zero => exact absurd HA.out (by simp [computuslaw23_KindFinds.l1])
          | succ k3 =>
           have H := HA.out
           clear HA
           simp only [computuslaw23_KindFinds.l1] at H
           by_cases c41 : x19_3 < (x17_3.length : Int)
           ·rw [if_pos c41] at H
            have c41b0 : decide (x19_3 < (x17_3.length : Int)) = true := decide_eq_true c41
            clear c41
            by_cases c42 : 0 ≤ x19_3
            ·rw [if_pos c42] at H
             have c42b0 : decide (0 ≤ x19_3) = true := decide_eq_true c42
             clear c42
             by_cases c43 : x19_3 < (t288.length : Int)
             ·rw [if_pos c43] at H
              have c43b0 : decide (x19_3 < (t288.length : Int)) = true := decide_eq_true c43
              clear c43
              by_cases c44 : (rdOf ByteArray.empty x17_3 x19_3).toList = (rdOf ByteArray.empty t288 x19_3).toList
              ·rw [if_pos c44] at H
               have c44b0 : ((rdOf ByteArray.empty x17_3 x19_3).toList == (rdOf ByteArray.empty t288 x19_3).toList) = true := beq_iff_eq.mpr c44
               have c44b1 : ((rdOf ByteArray.empty x17_3 x19_3).toList != (rdOf ByteArray.empty t288 x19_3).toList) = false := bne_eq_false_iff_eq.mpr c44
               clear c44
               obtain ⟨y293, hy293⟩ : ∃ y_ : List ByteArray, y_ = (x17_3.set (x19_3 : Int).toNat (⟨#[63]⟩ : ByteArray)) := ⟨_, rfl⟩
               replace H : (computuslaw23_KindFinds.l1 k3 y293 t288 (wrap64 (x19_3 + 1))) = some r := by first | (rw [hy293]; with_reducible exact H) | (have H2_ := (Option.bind_some _ _).symm.trans H; rw [hy293]; with_reducible exact H2_) | (have H2_ := (Option.bind_some _ _).symm.trans H; with_reducible exact H2_) | with_reducible exact H | (rw [hy293]; exact H) | exact H
               have Ny293 := Aside0.mk hy293
               clear hy293
               have H' := Aside0.mk H
               clear H
               try go_wp2
               have n0_ := Aside0.mk (Kd.R_drew HO_17.out)
               have n1_ := Aside0.mk (Kd.R_drew HO_18.out)
               have n2_ := Aside0.mk (below_drew1 HB.out)
               clear HO_17
               clear HO_18
               clear HB
               have HO_17 := n0_
               have HO_18 := n1_
               have HB := n2_
               clear n0_ n1_ n2_
               have p291 : 0 ≤ (x19_3 : Int) := of_decide_eq_true (by first | (with_reducible assumption) | assumption)
               have q291 : x19_3 < (x17_3.length : Int) := of_decide_eq_true (by first | (with_reducible assumption) | assumption)
               obtain ⟨ad291, e291, hx291_0⟩ := Kd.at_string (Kd.R_reads' HO_17.out).2.2 x19_3 p291 q291
               cases e291
               replace p291 := eq_true p291
               replace q291 := eq_true q291
               have p292 : 0 ≤ (x19_3 : Int) := of_decide_eq_true (by first | (with_reducible assumption) | assumption)
               have q292 : x19_3 < (t288.length : Int) := of_decide_eq_true (by first | (with_reducible assumption) | assumption)
               obtain ⟨ad292, e292, hx292_0⟩ := Kd.at_string (Kd.R_reads' HO_18.out).2.2 x19_3 p292 q292
               cases e292
               replace p292 := eq_true p292
               replace q292 := eq_true q292
               refine start_ (n := 9) (S := fun w' => w'.cell? (ad291.add (x19_3).toNat) = some (.string (rdOf ByteArray.empty x17_3 x19_3)) ∧ w'.cell? (ad292.add (x19_3).toNat) = some (.string (rdOf ByteArray.empty t288 x19_3))) (ds := []) #[false, false, false, false, false, false, false, false, false] (by kernel_rfl) rfl rfl ⟨hx291_0, hx292_0⟩ (fun hHeld => ?_); refine with_tabW computuslaw23_KindFinds.tab19 computuslaw23_KindFinds.bits19 (fun HT_ HW_ => ?_)
               generalize wr.drew = w46 at HO_17 HO_18 HB hx291_0 hx292_0 hHeld ⊢
               refine pure_ (i := 0) (N := some 92) (v := ?_) (a' := ?_) #[true, false, false, false, false, false, false, false, false] rfl rfl (any_of HT_.out (by kernel_rfl)) (fun _ _ _ h => h) (Or.inl ⟨by rfl, ?_⟩) ?_ ?_
               rotate_left
               ·intro w'
                go_simp
                with_reducible rfl
               rotate_left
               ·simp only [Act.put, List.setIfInBounds_toArray, List.set_cons_zero, List.set_cons_succ, i64_w, i32_w]
                rfl
               refine pure_ (i := 1) (N := some 93) (v := ?_) (a' := ?_) #[true, true, false, false, false, false, false, false, false] rfl rfl (any_of HT_.out (by kernel_rfl)) (fun _ _ _ h => h) (Or.inl ⟨by rfl, ?_⟩) ?_ ?_
               rotate_left
               ·intro w'
                go_simp
                with_reducible rfl
               rotate_left
               ·simp only [Act.put, List.setIfInBounds_toArray, List.set_cons_zero, List.set_cons_succ, i64_w, i32_w]
                rfl
               refine pure_ (i := 2) (N := some 94) (v := ?_) (a' := ?_) #[true, true, true, false, false, false, false, false, false] rfl rfl (any_of HT_.out (by kernel_rfl)) (fun _ _ _ h => h) (Or.inl ⟨by rfl, ?_⟩) ?_ ?_
               rotate_left
               ·intro w'
                go_simp
                with_reducible rfl
               rotate_left
               ·simp only [Act.put, List.setIfInBounds_toArray, List.set_cons_zero, List.set_cons_succ, i64_w, i32_w]
                rfl
               refine pure_ (i := 4) (N := some 96) (v := ?_) (a' := ?_) #[true, true, true, false, true, false, false, false, false] rfl rfl (any_of HT_.out (by kernel_rfl)) (fun _ _ _ h => h) (Or.inl ⟨by rfl, ?_⟩) ?_ ?_
               rotate_left
               ·intro w'
                go_simp
                with_reducible rfl
               rotate_left
               ·simp only [Act.put, List.setIfInBounds_toArray, List.set_cons_zero, List.set_cons_succ, i64_w, i32_w]
                rfl
               refine pure_ (i := 5) (N := some 97) (v := ?_) (a' := ?_) #[true, true, true, false, true, true, false, false, false] rfl rfl (any_of HT_.out (by kernel_rfl)) (fun _ _ _ h => h) (Or.inl ⟨by rfl, ?_⟩) ?_ ?_
               rotate_left
               ·intro w'
                go_simp
                with_reducible rfl
               rotate_left
               ·simp only [Act.put, List.setIfInBounds_toArray, List.set_cons_zero, List.set_cons_succ, i64_w, i32_w]
                rfl
               refine pure_ (i := 6) (N := some 98) (v := ?_) (a' := ?_) #[true, true, true, false, true, true, true, false, false] rfl rfl (any_of HT_.out (by kernel_rfl)) (fun _ _ _ h => h) (Or.inl ⟨by rfl, ?_⟩) ?_ ?_
               rotate_left
               ·intro w'
                go_simp
                with_reducible rfl
               rotate_left
               ·simp only [Act.put, List.setIfInBounds_toArray, List.set_cons_zero, List.set_cons_succ, i64_w, i32_w]
                rfl
               refine take_ (i := 3) (N := some 95) (v := ?_) (a' := ?_) #[true, true, true, true, true, true, true, false, false] rfl rfl (take_ofW HT_.out HW_.out (by kernel_rfl)) (fun _ _ _ h => h) (Or.inl ⟨by rfl, ?_⟩) hHeld ?_ ?_
               rotate_left
               ·rintro w' ⟨s0, s1⟩
                go_simp
                with_reducible rfl
               rotate_left
               ·simp only [Act.put, List.setIfInBounds_toArray, List.set_cons_zero, List.set_cons_succ, i64_w, i32_w]
                rfl
               refine take_ (i := 7) (N := some 99) (v := ?_) (a' := ?_) #[true, true, true, true, true, true, true, true, false] rfl rfl (take_ofW HT_.out HW_.out (by kernel_rfl)) (fun _ _ _ h => h) (Or.inl ⟨by rfl, ?_⟩) hHeld ?_ ?_
               rotate_left
               ·rintro w' ⟨s0, s1⟩
                go_simp
                with_reducible rfl
               rotate_left
               ·simp only [Act.put, List.setIfInBounds_toArray, List.set_cons_zero, List.set_cons_succ, i64_w, i32_w]
                rfl
               refine pure_ (i := 8) (N := some 100) (v := ?_) (a' := ?_) #[true, true, true, true, true, true, true, true, true] rfl rfl (any_of HT_.out (by kernel_rfl)) (fun _ _ _ h => h) (Or.inl ⟨by rfl, ?_⟩) ?_ ?_
               rotate_left
               ·intro w'
                go_simp
                with_reducible rfl
               rotate_left
               ·simp only [Act.put, List.setIfInBounds_toArray, List.set_cons_zero, List.set_cons_succ, i64_w, i32_w]
                rfl
               refine done_ (done_of HT_.out (by kernel_rfl)) ?_
               have p45 : 0 ≤ (x19_3 : Int) := of_decide_eq_true (by first | (with_reducible assumption) | assumption)
               have q45 : (x19_3 : Int) < ((x17_3.length : Int) : Int) := of_decide_eq_true (by first | (with_reducible assumption) | assumption)
               obtain ⟨go45, co45, eo45, gb45, gl45, cl45, HG45⟩ := Kd.R_form HO_17.out (by omega)
               (first | cases eo45 | (injection eo45 with ea_ en_ ec_; (first | subst ea_ | (injection ea_ with ea_; subst ea_)); subst ec_; clear en_))
               have GB45 := Aside0.mk gb45
               have GG45 := Aside0.mk HG45
               clear gb45 gl45 HG45
               (first | simp only [add_plain] at hx291_0 | skip)
               obtain ⟨hx45_0, hf45_0⟩ := Kd.R_celln (⟨#[]⟩ : ByteArray) HO_17.out (x19_3 : Int) p45 q45
               replace p45 := eq_true p45
               replace q45 := eq_true q45
               obtain ⟨hy47_, hz47_⟩ := Kd.R_celln (⟨#[]⟩ : ByteArray) HO_17.out (x19_3 : Int) (of_decide_eq_true (by first | (with_reducible assumption) | assumption)) (of_decide_eq_true (by first | (with_reducible assumption) | assumption))
               have HP47 := Kd.R_putg HO_17.out (x19_3 : Int) (⟨#[63]⟩ : ByteArray)
               try go_wp2_with (first | ((with_reducible refine gate_store (t := 9) (p := 103) rfl ?_); refine store_event (t := 9) (p := 103) (v := ?vo_w48) (w1 := (w46.setCell ⟨go45, (x19_3 : Int).toNat, none⟩ (.string (⟨#[63]⟩ : ByteArray)))) ?hg ?ho ?hn ?hr ?_; (case ho => rfl); (case hg => rfl); (case hn => rfl); (case hr => first | (go_simp; done) | (go_simp; rfl)); intro w48 hw; have hg : w46.grownBy w48 (some go45) := (by rw [hw]; exact HP47.2); have hp_ : Kd.R Kd.string 9 w48 w.heap.size (fun k_ => some k_ ≠ (.slice (some ad292) t288.length co40 : Value).ownBlock) (.slice (some ⟨go45, 0, none⟩) x17_3.length co39) y293 := (by rw [hw, Ny293.out]; exact HP47.1); clear HP47; have n0_ := Aside0.mk (hp_); have n1_ := Aside0.mk (Kd.R_after (v := (.slice (some ⟨go45, 0, none⟩) x17_3.length co39)) (v1 := (.slice (some ⟨go45, 0, none⟩) x17_3.length co39)) (ok := (fun _ => True)) (by (with_reducible repeat (first | apply Kd.R_alloc | apply Kd.R_drewN | apply Kd.R_drew)); exact Kd.R_mono HO_18.out (fun _ hk => ⟨trivial, hk⟩)) hg (.inl rfl)); have n2_ := Aside0.mk ((by rw [hw]; exact below_set (HB.out) GB45.out : Below w.heap.size w w48)); clear HO_17; clear HO_18; clear HB; have HO_17 := n0_; have HO_18 := n1_; have HB := n2_; clear n0_ n1_ n2_; clear hg hw hp_))
               (try simp only [← hl17_3])
               go_roundg k3
               case measure => have := HJ7.out; have := HK2.out; have := HK3.out; omega
               case rel => exact ⟨(y293), (wrap64 (x19_3 + 1)), (by first | rfl | (simp; done) | (simp [*]; done)), H', ⟨by have := HJ7.out; have := HK2.out; have := HK3.out; omega⟩, ⟨by (try simp only [hl17_3]); (with_reducible repeat (first | apply Kd.R_alloc | apply Kd.R_drewN | apply Kd.R_drew)); exact HO_17.out⟩, ⟨by (try simp only [hl17_3]); (with_reducible repeat (first | apply Kd.R_alloc | apply Kd.R_drewN | apply Kd.R_drew)); exact Kd.R_mono HO_18.out (fun _ hk => hk.2)⟩, ⟨by repeat (first | (with_reducible first | exact HB.out | apply below_alloc | apply pw_below_drewN | apply below_drew1) | exact HB.out)⟩⟩
              ·rw [if_neg c44] at H
               have c44b0 : ((rdOf ByteArray.empty x17_3 x19_3).toList == (rdOf ByteArray.empty t288 x19_3).toList) = false := beq_eq_false_iff_ne.mpr c44
               have c44b1 : ((rdOf ByteArray.empty x17_3 x19_3).toList != (rdOf ByteArray.empty t288 x19_3).toList) = true := bne_iff_ne.mpr c44
               obtain rfl := Option.some.inj H
               try go_wp2
               have n0_ := Aside0.mk (Kd.R_drew HO_17.out)
               have n1_ := Aside0.mk (Kd.R_drew HO_18.out)
               have n2_ := Aside0.mk (below_drew1 HB.out)
               clear HO_17
               clear HO_18
               clear HB
               have HO_17 := n0_
               have HO_18 := n1_
               have HB := n2_
               clear n0_ n1_ n2_
               have p291 : 0 ≤ (x19_3 : Int) := of_decide_eq_true (by first | (with_reducible assumption) | assumption)
               have q291 : x19_3 < (x17_3.length : Int) := of_decide_eq_true (by first | (with_reducible assumption) | assumption)
               obtain ⟨ad291, e291, hx291_0⟩ := Kd.at_string (Kd.R_reads' HO_17.out).2.2 x19_3 p291 q291
               cases e291
               replace p291 := eq_true p291
               replace q291 := eq_true q291
               have p292 : 0 ≤ (x19_3 : Int) := of_decide_eq_true (by first | (with_reducible assumption) | assumption)
               have q292 : x19_3 < (t288.length : Int) := of_decide_eq_true (by first | (with_reducible assumption) | assumption)
               obtain ⟨ad292, e292, hx292_0⟩ := Kd.at_string (Kd.R_reads' HO_18.out).2.2 x19_3 p292 q292
               cases e292
               replace p292 := eq_true p292
               replace q292 := eq_true q292
               refine start_ (n := 9) (S := fun w' => w'.cell? (ad291.add (x19_3).toNat) = some (.string (rdOf ByteArray.empty x17_3 x19_3)) ∧ w'.cell? (ad292.add (x19_3).toNat) = some (.string (rdOf ByteArray.empty t288 x19_3))) (ds := []) #[false, false, false, false, false, false, false, false, false] (by kernel_rfl) rfl rfl ⟨hx291_0, hx292_0⟩ (fun hHeld => ?_); refine with_tabW computuslaw23_KindFinds.tab19 computuslaw23_KindFinds.bits19 (fun HT_ HW_ => ?_)
               generalize wr.drew = w49 at HO_17 HO_18 HB hx291_0 hx292_0 hHeld ⊢
               refine pure_ (i := 0) (N := some 92) (v := ?_) (a' := ?_) #[true, false, false, false, false, false, false, false, false] rfl rfl (any_of HT_.out (by kernel_rfl)) (fun _ _ _ h => h) (Or.inl ⟨by rfl, ?_⟩) ?_ ?_
               rotate_left
               ·intro w'
                go_simp
                with_reducible rfl
               rotate_left
               ·simp only [Act.put, List.setIfInBounds_toArray, List.set_cons_zero, List.set_cons_succ, i64_w, i32_w]
                rfl
               refine pure_ (i := 1) (N := some 93) (v := ?_) (a' := ?_) #[true, true, false, false, false, false, false, false, false] rfl rfl (any_of HT_.out (by kernel_rfl)) (fun _ _ _ h => h) (Or.inl ⟨by rfl, ?_⟩) ?_ ?_
               rotate_left
               ·intro w'
                go_simp
                with_reducible rfl
               rotate_left
               ·simp only [Act.put, List.setIfInBounds_toArray, List.set_cons_zero, List.set_cons_succ, i64_w, i32_w]
                rfl
               refine pure_ (i := 2) (N := some 94) (v := ?_) (a' := ?_) #[true, true, true, false, false, false, false, false, false] rfl rfl (any_of HT_.out (by kernel_rfl)) (fun _ _ _ h => h) (Or.inl ⟨by rfl, ?_⟩) ?_ ?_
               rotate_left
               ·intro w'
                go_simp
                with_reducible rfl
               rotate_left
               ·simp only [Act.put, List.setIfInBounds_toArray, List.set_cons_zero, List.set_cons_succ, i64_w, i32_w]
                rfl
               refine pure_ (i := 4) (N := some 96) (v := ?_) (a' := ?_) #[true, true, true, false, true, false, false, false, false] rfl rfl (any_of HT_.out (by kernel_rfl)) (fun _ _ _ h => h) (Or.inl ⟨by rfl, ?_⟩) ?_ ?_
               rotate_left
               ·intro w'
                go_simp
                with_reducible rfl
               rotate_left
               ·simp only [Act.put, List.setIfInBounds_toArray, List.set_cons_zero, List.set_cons_succ, i64_w, i32_w]
                rfl
               refine pure_ (i := 5) (N := some 97) (v := ?_) (a' := ?_) #[true, true, true, false, true, true, false, false, false] rfl rfl (any_of HT_.out (by kernel_rfl)) (fun _ _ _ h => h) (Or.inl ⟨by rfl, ?_⟩) ?_ ?_
               rotate_left
               ·intro w'
                go_simp
                with_reducible rfl
               rotate_left
               ·simp only [Act.put, List.setIfInBounds_toArray, List.set_cons_zero, List.set_cons_succ, i64_w, i32_w]
                rfl
               refine pure_ (i := 6) (N := some 98) (v := ?_) (a' := ?_) #[true, true, true, false, true, true, true, false, false] rfl rfl (any_of HT_.out (by kernel_rfl)) (fun _ _ _ h => h) (Or.inl ⟨by rfl, ?_⟩) ?_ ?_
               rotate_left
               ·intro w'
                go_simp
                with_reducible rfl
               rotate_left
               ·simp only [Act.put, List.setIfInBounds_toArray, List.set_cons_zero, List.set_cons_succ, i64_w, i32_w]
                rfl
               refine take_ (i := 3) (N := some 95) (v := ?_) (a' := ?_) #[true, true, true, true, true, true, true, false, false] rfl rfl (take_ofW HT_.out HW_.out (by kernel_rfl)) (fun _ _ _ h => h) (Or.inl ⟨by rfl, ?_⟩) hHeld ?_ ?_
               rotate_left
               ·rintro w' ⟨s0, s1⟩
                go_simp
                with_reducible rfl
               rotate_left
               ·simp only [Act.put, List.setIfInBounds_toArray, List.set_cons_zero, List.set_cons_succ, i64_w, i32_w]
                rfl
               refine take_ (i := 7) (N := some 99) (v := ?_) (a' := ?_) #[true, true, true, true, true, true, true, true, false] rfl rfl (take_ofW HT_.out HW_.out (by kernel_rfl)) (fun _ _ _ h => h) (Or.inl ⟨by rfl, ?_⟩) hHeld ?_ ?_
               rotate_left
               ·rintro w' ⟨s0, s1⟩
                go_simp
                with_reducible rfl
               rotate_left
               ·simp only [Act.put, List.setIfInBounds_toArray, List.set_cons_zero, List.set_cons_succ, i64_w, i32_w]
                rfl
               refine pure_ (i := 8) (N := some 100) (v := ?_) (a' := ?_) #[true, true, true, true, true, true, true, true, true] rfl rfl (any_of HT_.out (by kernel_rfl)) (fun _ _ _ h => h) (Or.inl ⟨by rfl, ?_⟩) ?_ ?_
               rotate_left
               ·intro w'
                go_simp
                with_reducible rfl
               rotate_left
               ·simp only [Act.put, List.setIfInBounds_toArray, List.set_cons_zero, List.set_cons_succ, i64_w, i32_w]
                rfl
               refine done_ (done_of HT_.out (by kernel_rfl)) ?_
               try go_wp2
               go_ret
               exact ⟨by first | rfl | (simp [errW_none, errW_some] <;> rfl) | (simp [*, errW_none, errW_some] <;> rfl), by repeat (first | (with_reducible first | exact HB.out | apply below_alloc | apply pw_below_drewN | apply below_drew1) | exact HB.out)⟩
             ·rw [if_neg c43] at H
              exact absurd H (by simp)
            ·rw [if_neg c42] at H
             exact absurd H (by simp)
           ·rw [if_neg c41] at H
            have c41b0 : decide (x19_3 < (x17_3.length : Int)) = false := decide_eq_false c41
            clear c41
            replace H := Option.bind_eq_some_iff.mp H
            obtain ⟨t294, A500, H⟩ := H
            replace H : (if 0 < (t294.length : Int) then (if 0 < (t288.length : Int) then (if (rdOf ByteArray.empty t294 0).toList = (rdOf ByteArray.empty t288 0).toList then ((computuslaw23_known.f).bind fun t299 => (some t299)) else (some false)) else (none)) else (none)) = some r := H
            have A50 := Aside0.mk A500
            clear A500
            by_cases c51 : 0 < (t294.length : Int)
            ·rw [if_pos c51] at H
             have c51b0 : decide (0 < (t294.length : Int)) = true := decide_eq_true c51
             have c51b1 : decide (0 < t294.length) = true := decide_eq_true (by omega)
             clear c51
             by_cases c52 : 0 < (t288.length : Int)
             ·rw [if_pos c52] at H
              have c52b0 : decide (0 < (t288.length : Int)) = true := decide_eq_true c52
              have c52b1 : decide (0 < t288.length) = true := decide_eq_true (by omega)
              clear c52
              by_cases c53 : (rdOf ByteArray.empty t294 0).toList = (rdOf ByteArray.empty t288 0).toList
              ·rw [if_pos c53] at H
               have c53b0 : ((rdOf ByteArray.empty t294 0).toList == (rdOf ByteArray.empty t288 0).toList) = true := beq_iff_eq.mpr c53
               have c53b1 : ((rdOf ByteArray.empty t294 0).toList != (rdOf ByteArray.empty t288 0).toList) = false := bne_eq_false_iff_eq.mpr c53
               clear c53
               replace H := Option.bind_eq_some_iff.mp H
               obtain ⟨t299, A540, H⟩ := H
               replace H : (some t299) = some r := H
               have A54 := Aside0.mk A540
               clear A540
               obtain rfl := Option.some.inj H
               try go_wp2_with (first | ((with_reducible refine gate_callee (f := 15) rfl ?_); refine goesL_ (some 104) rfl rfl Tryd.func15 (by kernel_rfl) rfl #[] rfl (by (try simp only [List.map_toArray, List.map_cons, List.map_nil]); first | done | rfl | (simp only [List.length_drop, List.length_take]; rfl)) ?_; (with_reducible refine (kind_Ops.calls k3  t294 _ A50.out).mono ?_); rintro e w55 ⟨v295, rfl, ho0, hb⟩; refine ⟨_, rfl, ?_⟩; have n0_ := Aside0.mk (Kd.R_elder' (by (with_reducible repeat (first | apply Kd.R_alloc | apply Kd.R_drewN | apply Kd.R_drew)); exact HO_17.out) (Kd.R_base ho0) hb); have n1_ := Aside0.mk (Kd.R_elder' (by (with_reducible repeat (first | apply Kd.R_alloc | apply Kd.R_drewN | apply Kd.R_drew)); exact HO_18.out) (Kd.R_base ho0) hb); have n2_ := Aside0.mk (Kd.R_lower (Kd.R_new' (Kd.R_new' ho0 (Kd.R_lt (by (with_reducible repeat (first | apply Kd.R_alloc | apply Kd.R_drewN | apply Kd.R_drew)); exact HO_17.out))) (Kd.R_lt (by (with_reducible repeat (first | apply Kd.R_alloc | apply Kd.R_drewN | apply Kd.R_drew)); exact HO_18.out))) (below_size (by repeat (first | (with_reducible first | exact HB.out | apply below_alloc | apply pw_below_drewN | apply below_drew1) | exact HB.out)))); have n3_ := Aside0.mk (below_step (by repeat (first | (with_reducible first | exact HB.out | apply below_alloc | apply pw_below_drewN | apply below_drew1) | exact HB.out)) hb); clear HO_17; clear HO_18; clear HB; have HO_17 := n0_; have HO_18 := n1_; have HO296 := n2_; have HB := n3_; clear n0_ n1_ n2_ n3_; (try clear hb); (try clear hb2); (try clear hk); (try clear hi); (try clear ho0)))
               have n0_ := Aside0.mk (Kd.R_drew HO_17.out)
               have n1_ := Aside0.mk (Kd.R_drew HO_18.out)
               have n2_ := Aside0.mk (Kd.R_drew HO296.out)
               have n3_ := Aside0.mk (below_drew1 HB.out)
               clear HO_17
               clear HO_18
               clear HO296
               clear HB
               have HO_17 := n0_
               have HO_18 := n1_
               have HO296 := n2_
               have HB := n3_
               clear n0_ n1_ n2_ n3_
               obtain ⟨Ao57, co57, eo57⟩ := Kd.R_slice HO296.out
               (first | subst eo57 | (injection eo57 with f1_ f2_ f3_; have f4_ := f1_.symm; have f5_ := f3_.symm; clear f1_ f2_ f3_; subst f4_; subst f5_))
               have p297 : 0 ≤ (0 : Int) := (by omega)
               have q297 : 0 < (t294.length : Int) := of_decide_eq_true (by first | (with_reducible assumption) | assumption)
               obtain ⟨ad297, e297, hx297_0⟩ := Kd.at_string (Kd.R_reads' HO296.out).2.2 0 p297 q297
               cases e297
               have qi297 : (0 < t294.length) = True := eq_true (by omega)
               (try rw [show ((0 : Int)).toNat = 0 from rfl] at hx297_0)
               (try rw [Addr.add_zero'] at hx297_0)
               replace p297 := eq_true p297
               replace q297 := eq_true q297
               have p298 : 0 ≤ (0 : Int) := (by omega)
               have q298 : 0 < (t288.length : Int) := of_decide_eq_true (by first | (with_reducible assumption) | assumption)
               obtain ⟨ad298, e298, hx298_0⟩ := Kd.at_string (Kd.R_reads' HO_18.out).2.2 0 p298 q298
               cases e298
               have qi298 : (0 < t288.length) = True := eq_true (by omega)
               (try rw [show ((0 : Int)).toNat = 0 from rfl] at hx298_0)
               (try rw [Addr.add_zero'] at hx298_0)
               replace p298 := eq_true p298
               replace q298 := eq_true q298
               refine start_ (n := 11) (S := fun w' => w'.cell? ad297 = some (.string (rdOf ByteArray.empty t294 0)) ∧ w'.cell? ad298 = some (.string (rdOf ByteArray.empty t288 0))) (ds := []) #[false, false, false, false, false, false, false, false, false, false, false] (by kernel_rfl) rfl rfl ⟨hx297_0, hx298_0⟩ (fun hHeld => ?_); refine with_tabW computuslaw23_KindFinds.tab23 computuslaw23_KindFinds.bits23 (fun HT_ HW_ => ?_)
               generalize w55.drew = w56 at HO_17 HO_18 HO296 HB hx297_0 hx298_0 hHeld ⊢
               refine pure_ (i := 0) (N := some 105) (v := ?_) (a' := ?_) #[true, false, false, false, false, false, false, false, false, false, false] rfl rfl (any_of HT_.out (by kernel_rfl)) (fun _ _ _ h => h) (Or.inl ⟨by rfl, ?_⟩) ?_ ?_
               rotate_left
               ·intro w'
                go_simp
                with_reducible rfl
               rotate_left
               ·simp only [Act.put, List.setIfInBounds_toArray, List.set_cons_zero, List.set_cons_succ, i64_w, i32_w]
                rfl
               refine pure_ (i := 1) (N := some 106) (v := ?_) (a' := ?_) #[true, true, false, false, false, false, false, false, false, false, false] rfl rfl (any_of HT_.out (by kernel_rfl)) (fun _ _ _ h => h) (Or.inl ⟨by rfl, ?_⟩) ?_ ?_
               rotate_left
               ·intro w'
                go_simp
                with_reducible rfl
               rotate_left
               ·simp only [Act.put, List.setIfInBounds_toArray, List.set_cons_zero, List.set_cons_succ, i64_w, i32_w]
                rfl
               refine pure_ (i := 3) (N := some 108) (v := ?_) (a' := ?_) #[true, true, false, true, false, false, false, false, false, false, false] rfl rfl (any_of HT_.out (by kernel_rfl)) (fun _ _ _ h => h) (Or.inl ⟨by rfl, ?_⟩) ?_ ?_
               rotate_left
               ·intro w'
                go_simp
                with_reducible rfl
               rotate_left
               ·simp only [Act.put, List.setIfInBounds_toArray, List.set_cons_zero, List.set_cons_succ, i64_w, i32_w]
                rfl
               refine pure_ (i := 4) (N := some 109) (v := ?_) (a' := ?_) #[true, true, false, true, true, false, false, false, false, false, false] rfl rfl (any_of HT_.out (by kernel_rfl)) (fun _ _ _ h => h) (Or.inl ⟨by rfl, ?_⟩) ?_ ?_
               rotate_left
               ·intro w'
                go_simp
                with_reducible rfl
               rotate_left
               ·simp only [Act.put, List.setIfInBounds_toArray, List.set_cons_zero, List.set_cons_succ, i64_w, i32_w]
                rfl
               refine take_ (i := 2) (N := some 107) (v := ?_) (a' := ?_) #[true, true, true, true, true, false, false, false, false, false, false] rfl rfl (take_ofW HT_.out HW_.out (by kernel_rfl)) (fun _ _ _ h => h) (Or.inl ⟨by rfl, ?_⟩) hHeld ?_ ?_
               rotate_left
               ·rintro w' ⟨s0, s1⟩
                go_simp
                with_reducible rfl
               rotate_left
               ·simp only [Act.put, List.setIfInBounds_toArray, List.set_cons_zero, List.set_cons_succ, i64_w, i32_w]
                rfl
               refine take_ (i := 5) (N := some 110) (v := ?_) (a' := ?_) #[true, true, true, true, true, true, false, false, false, false, false] rfl rfl (take_ofW HT_.out HW_.out (by kernel_rfl)) (fun _ _ _ h => h) (Or.inl ⟨by rfl, ?_⟩) hHeld ?_ ?_
               rotate_left
               ·rintro w' ⟨s0, s1⟩
                go_simp
                with_reducible rfl
               rotate_left
               ·simp only [Act.put, List.setIfInBounds_toArray, List.set_cons_zero, List.set_cons_succ, i64_w, i32_w]
                rfl
               refine pure_ (i := 6) (N := some 111) (v := ?_) (a' := ?_) #[true, true, true, true, true, true, true, false, false, false, false] rfl rfl (any_of HT_.out (by kernel_rfl)) (fun _ _ _ h => h) (Or.inl ⟨by rfl, ?_⟩) ?_ ?_
               rotate_left
               ·intro w'
                go_simp
                with_reducible rfl
               rotate_left
               ·simp only [Act.put, List.setIfInBounds_toArray, List.set_cons_zero, List.set_cons_succ, i64_w, i32_w]
                rfl
               refine pure_ (i := 7) (N := some 112) (v := ?_) (a' := ?_) #[true, true, true, true, true, true, true, true, false, false, false] rfl rfl (any_of HT_.out (by kernel_rfl)) (fun _ _ _ h => h) (Or.inl ⟨by rfl, ?_⟩) ?_ ?_
               rotate_left
               ·intro w'
                go_simp
                with_reducible rfl
               rotate_left
               ·simp only [Act.put, List.setIfInBounds_toArray, List.set_cons_zero, List.set_cons_succ, i64_w, i32_w]
                rfl
               refine one_ (i := 8) (N := some 113) #[true, true, true, true, true, true, true, true, true, false, false] rfl rfl (one_of HT_.out (by kernel_rfl)) (by decide) (fun K hK => ?_)
               refine goes_ Tryd.func7 (by kernel_rfl) rfl #[] (by rfl) rfl rfl (by (try simp only [List.map_toArray, List.map_cons, List.map_nil]); first | done | rfl | (simp only [List.length_drop, List.length_take]; rfl)) ?_
               with_reducible refine (computuslaw23_known.calls  t299 _ (HTW0.out.below (by repeat (first | (with_reducible first | exact HB.out | apply below_alloc | apply pw_below_drewN | apply below_drew1 ) | exact HB.out))) A54.out).mono ?_
               rintro e w58 ⟨rfl, hb⟩
               have HS0_ := (hb.cell (World.block_lt_of_cell? _ _ (hHeld.1))).trans (hHeld.1)
               have HS1_ := (hb.cell (World.block_lt_of_cell? _ _ (hHeld.2))).trans (hHeld.2)
               refine ⟨_, rfl, ?_⟩
               have n0_ := Aside0.mk (Kd.R_below (by (with_reducible repeat (first | apply Kd.R_alloc | apply Kd.R_drewN | apply Kd.R_drew)); exact HO_17.out) hb)
               have n1_ := Aside0.mk (Kd.R_below (by (with_reducible repeat (first | apply Kd.R_alloc | apply Kd.R_drewN | apply Kd.R_drew)); exact HO_18.out) hb)
               have n2_ := Aside0.mk (Kd.R_below (by (with_reducible repeat (first | apply Kd.R_alloc | apply Kd.R_drewN | apply Kd.R_drew)); exact HO296.out) hb)
               have n3_ := Aside0.mk (below_step (by repeat (first | (with_reducible first | exact HB.out | apply below_alloc | apply pw_below_drewN | apply below_drew1) | exact HB.out)) hb)
               clear HO_17
               clear HO_18
               clear HO296
               clear HB
               have HO_17 := n0_
               have HO_18 := n1_
               have HO296 := n2_
               have HB := n3_
               clear n0_ n1_ n2_ n3_
               (try clear hb)
               (try clear hb2)
               (try clear hk)
               (try clear hi)
               refine hK.out _ _ ⟨HS0_, HS1_⟩ (fun hHeld => ?_)
               clear hK K
               refine norm_ (a' := ?_) ?_ ?_
               rotate_left
               ·show Act.put _ (some 113) _ = _
                simp only [Act.put, List.setIfInBounds_toArray, List.set_cons_zero, List.set_cons_succ, i64_w, i32_w]
                rfl
               refine pure_ (i := 9) (N := some 114) (v := ?_) (a' := ?_) #[true, true, true, true, true, true, true, true, true, true, false] rfl rfl (any_of HT_.out (by kernel_rfl)) (fun _ _ _ h => h) (Or.inl ⟨by rfl, ?_⟩) ?_ ?_
               rotate_left
               ·intro w'
                go_simp
                with_reducible rfl
               rotate_left
               ·simp only [Act.put, List.setIfInBounds_toArray, List.set_cons_zero, List.set_cons_succ, i64_w, i32_w]
                rfl
               refine pure_ (i := 10) (N := some 8) (v := ?_) (a' := ?_) #[true, true, true, true, true, true, true, true, true, true, true] rfl rfl (any_of HT_.out (by kernel_rfl)) (fun _ _ _ h => h) (Or.inl ⟨by rfl, ?_⟩) ?_ ?_
               rotate_left
               ·intro w'
                go_simp
                with_reducible rfl
               rotate_left
               ·simp only [Act.put, List.setIfInBounds_toArray, List.set_cons_zero, List.set_cons_succ, i64_w, i32_w]
                rfl
               refine done_ (done_of HT_.out (by kernel_rfl)) ?_
               try go_wp2
               go_ret
               exact ⟨by first | rfl | (simp [errW_none, errW_some] <;> rfl) | (simp [*, errW_none, errW_some] <;> rfl), by repeat (first | (with_reducible first | exact HB.out | apply below_alloc | apply pw_below_drewN | apply below_drew1) | exact HB.out)⟩
              ·rw [if_neg c53] at H
               have c53b0 : ((rdOf ByteArray.empty t294 0).toList == (rdOf ByteArray.empty t288 0).toList) = false := beq_eq_false_iff_ne.mpr c53
               have c53b1 : ((rdOf ByteArray.empty t294 0).toList != (rdOf ByteArray.empty t288 0).toList) = true := bne_iff_ne.mpr c53
               obtain rfl := Option.some.inj H
               try go_wp2_with (first | ((with_reducible refine gate_callee (f := 15) rfl ?_); refine goesL_ (some 104) rfl rfl Tryd.func15 (by kernel_rfl) rfl #[] rfl (by (try simp only [List.map_toArray, List.map_cons, List.map_nil]); first | done | rfl | (simp only [List.length_drop, List.length_take]; rfl)) ?_; (with_reducible refine (kind_Ops.calls k3  t294 _ A50.out).mono ?_); rintro e w59 ⟨v295, rfl, ho0, hb⟩; refine ⟨_, rfl, ?_⟩; have n0_ := Aside0.mk (Kd.R_elder' (by (with_reducible repeat (first | apply Kd.R_alloc | apply Kd.R_drewN | apply Kd.R_drew)); exact HO_17.out) (Kd.R_base ho0) hb); have n1_ := Aside0.mk (Kd.R_elder' (by (with_reducible repeat (first | apply Kd.R_alloc | apply Kd.R_drewN | apply Kd.R_drew)); exact HO_18.out) (Kd.R_base ho0) hb); have n2_ := Aside0.mk (Kd.R_lower (Kd.R_new' (Kd.R_new' ho0 (Kd.R_lt (by (with_reducible repeat (first | apply Kd.R_alloc | apply Kd.R_drewN | apply Kd.R_drew)); exact HO_17.out))) (Kd.R_lt (by (with_reducible repeat (first | apply Kd.R_alloc | apply Kd.R_drewN | apply Kd.R_drew)); exact HO_18.out))) (below_size (by repeat (first | (with_reducible first | exact HB.out | apply below_alloc | apply pw_below_drewN | apply below_drew1) | exact HB.out)))); have n3_ := Aside0.mk (below_step (by repeat (first | (with_reducible first | exact HB.out | apply below_alloc | apply pw_below_drewN | apply below_drew1) | exact HB.out)) hb); clear HO_17; clear HO_18; clear HB; have HO_17 := n0_; have HO_18 := n1_; have HO296 := n2_; have HB := n3_; clear n0_ n1_ n2_ n3_; (try clear hb); (try clear hb2); (try clear hk); (try clear hi); (try clear ho0)))
               have n0_ := Aside0.mk (Kd.R_drew HO_17.out)
               have n1_ := Aside0.mk (Kd.R_drew HO_18.out)
               have n2_ := Aside0.mk (Kd.R_drew HO296.out)
               have n3_ := Aside0.mk (below_drew1 HB.out)
               clear HO_17
               clear HO_18
               clear HO296
               clear HB
               have HO_17 := n0_
               have HO_18 := n1_
               have HO296 := n2_
               have HB := n3_
               clear n0_ n1_ n2_ n3_
               obtain ⟨Ao61, co61, eo61⟩ := Kd.R_slice HO296.out
               (first | subst eo61 | (injection eo61 with f1_ f2_ f3_; have f4_ := f1_.symm; have f5_ := f3_.symm; clear f1_ f2_ f3_; subst f4_; subst f5_))
               have p297 : 0 ≤ (0 : Int) := (by omega)
               have q297 : 0 < (t294.length : Int) := of_decide_eq_true (by first | (with_reducible assumption) | assumption)
               obtain ⟨ad297, e297, hx297_0⟩ := Kd.at_string (Kd.R_reads' HO296.out).2.2 0 p297 q297
               cases e297
               have qi297 : (0 < t294.length) = True := eq_true (by omega)
               (try rw [show ((0 : Int)).toNat = 0 from rfl] at hx297_0)
               (try rw [Addr.add_zero'] at hx297_0)
               replace p297 := eq_true p297
               replace q297 := eq_true q297
               have p298 : 0 ≤ (0 : Int) := (by omega)
               have q298 : 0 < (t288.length : Int) := of_decide_eq_true (by first | (with_reducible assumption) | assumption)
               obtain ⟨ad298, e298, hx298_0⟩ := Kd.at_string (Kd.R_reads' HO_18.out).2.2 0 p298 q298
               cases e298
               have qi298 : (0 < t288.length) = True := eq_true (by omega)
               (try rw [show ((0 : Int)).toNat = 0 from rfl] at hx298_0)
               (try rw [Addr.add_zero'] at hx298_0)
               replace p298 := eq_true p298
               replace q298 := eq_true q298
               refine start_ (n := 11) (S := fun w' => w'.cell? ad297 = some (.string (rdOf ByteArray.empty t294 0)) ∧ w'.cell? ad298 = some (.string (rdOf ByteArray.empty t288 0))) (ds := []) #[false, false, false, false, false, false, false, false, false, false, false] (by kernel_rfl) rfl rfl ⟨hx297_0, hx298_0⟩ (fun hHeld => ?_); refine with_tabW computuslaw23_KindFinds.tab23 computuslaw23_KindFinds.bits23 (fun HT_ HW_ => ?_)
               generalize w59.drew = w60 at HO_17 HO_18 HO296 HB hx297_0 hx298_0 hHeld ⊢
               refine pure_ (i := 0) (N := some 105) (v := ?_) (a' := ?_) #[true, false, false, false, false, false, false, false, false, false, false] rfl rfl (any_of HT_.out (by kernel_rfl)) (fun _ _ _ h => h) (Or.inl ⟨by rfl, ?_⟩) ?_ ?_
               rotate_left
               ·intro w'
                go_simp
                with_reducible rfl
               rotate_left
               ·simp only [Act.put, List.setIfInBounds_toArray, List.set_cons_zero, List.set_cons_succ, i64_w, i32_w]
                rfl
               refine pure_ (i := 1) (N := some 106) (v := ?_) (a' := ?_) #[true, true, false, false, false, false, false, false, false, false, false] rfl rfl (any_of HT_.out (by kernel_rfl)) (fun _ _ _ h => h) (Or.inl ⟨by rfl, ?_⟩) ?_ ?_
               rotate_left
               ·intro w'
                go_simp
                with_reducible rfl
               rotate_left
               ·simp only [Act.put, List.setIfInBounds_toArray, List.set_cons_zero, List.set_cons_succ, i64_w, i32_w]
                rfl
               refine pure_ (i := 3) (N := some 108) (v := ?_) (a' := ?_) #[true, true, false, true, false, false, false, false, false, false, false] rfl rfl (any_of HT_.out (by kernel_rfl)) (fun _ _ _ h => h) (Or.inl ⟨by rfl, ?_⟩) ?_ ?_
               rotate_left
               ·intro w'
                go_simp
                with_reducible rfl
               rotate_left
               ·simp only [Act.put, List.setIfInBounds_toArray, List.set_cons_zero, List.set_cons_succ, i64_w, i32_w]
                rfl
               refine pure_ (i := 4) (N := some 109) (v := ?_) (a' := ?_) #[true, true, false, true, true, false, false, false, false, false, false] rfl rfl (any_of HT_.out (by kernel_rfl)) (fun _ _ _ h => h) (Or.inl ⟨by rfl, ?_⟩) ?_ ?_
               rotate_left
               ·intro w'
                go_simp
                with_reducible rfl
               rotate_left
               ·simp only [Act.put, List.setIfInBounds_toArray, List.set_cons_zero, List.set_cons_succ, i64_w, i32_w]
                rfl
               refine take_ (i := 2) (N := some 107) (v := ?_) (a' := ?_) #[true, true, true, true, true, false, false, false, false, false, false] rfl rfl (take_ofW HT_.out HW_.out (by kernel_rfl)) (fun _ _ _ h => h) (Or.inl ⟨by rfl, ?_⟩) hHeld ?_ ?_
               rotate_left
               ·rintro w' ⟨s0, s1⟩
                go_simp
                with_reducible rfl
               rotate_left
               ·simp only [Act.put, List.setIfInBounds_toArray, List.set_cons_zero, List.set_cons_succ, i64_w, i32_w]
                rfl
               refine take_ (i := 5) (N := some 110) (v := ?_) (a' := ?_) #[true, true, true, true, true, true, false, false, false, false, false] rfl rfl (take_ofW HT_.out HW_.out (by kernel_rfl)) (fun _ _ _ h => h) (Or.inl ⟨by rfl, ?_⟩) hHeld ?_ ?_
               rotate_left
               ·rintro w' ⟨s0, s1⟩
                go_simp
                with_reducible rfl
               rotate_left
               ·simp only [Act.put, List.setIfInBounds_toArray, List.set_cons_zero, List.set_cons_succ, i64_w, i32_w]
                rfl
               refine pure_ (i := 6) (N := some 111) (v := ?_) (a' := ?_) #[true, true, true, true, true, true, true, false, false, false, false] rfl rfl (any_of HT_.out (by kernel_rfl)) (fun _ _ _ h => h) (Or.inl ⟨by rfl, ?_⟩) ?_ ?_
               rotate_left
               ·intro w'
                go_simp
                with_reducible rfl
               rotate_left
               ·simp only [Act.put, List.setIfInBounds_toArray, List.set_cons_zero, List.set_cons_succ, i64_w, i32_w]
                rfl
               refine pure_ (i := 7) (N := some 112) (v := ?_) (a' := ?_) #[true, true, true, true, true, true, true, true, false, false, false] rfl rfl (any_of HT_.out (by kernel_rfl)) (fun _ _ _ h => h) (Or.inl ⟨by rfl, ?_⟩) ?_ ?_
               rotate_left
               ·intro w'
                go_simp
                with_reducible rfl
               rotate_left
               ·simp only [Act.put, List.setIfInBounds_toArray, List.set_cons_zero, List.set_cons_succ, i64_w, i32_w]
                rfl
               refine pure_ (i := 8) (N := some 113) (v := undef) (a' := ?_) #[true, true, true, true, true, true, true, true, true, false, false] rfl rfl (any_of HT_.out (by kernel_rfl)) (fun _ _ _ h => h) (Or.inr ⟨by rfl, rfl⟩) ?_ ?_
               rotate_left
               ·simp only [Act.put, List.setIfInBounds_toArray, List.set_cons_zero, List.set_cons_succ, i64_w, i32_w]
                rfl
               refine pure_ (i := 9) (N := some 114) (v := ?_) (a' := ?_) #[true, true, true, true, true, true, true, true, true, true, false] rfl rfl (any_of HT_.out (by kernel_rfl)) (fun _ _ _ h => h) (Or.inl ⟨by rfl, ?_⟩) ?_ ?_
               rotate_left
               ·intro w'
                go_simp
                with_reducible rfl
               rotate_left
               ·simp only [Act.put, List.setIfInBounds_toArray, List.set_cons_zero, List.set_cons_succ, i64_w, i32_w]
                rfl
               refine pure_ (i := 10) (N := some 8) (v := ?_) (a' := ?_) #[true, true, true, true, true, true, true, true, true, true, true] rfl rfl (any_of HT_.out (by kernel_rfl)) (fun _ _ _ h => h) (Or.inl ⟨by rfl, ?_⟩) ?_ ?_
               rotate_left
               ·intro w'
                go_simp
                with_reducible rfl
               rotate_left
               ·simp only [Act.put, List.setIfInBounds_toArray, List.set_cons_zero, List.set_cons_succ, i64_w, i32_w]
                rfl
               refine done_ (done_of HT_.out (by kernel_rfl)) ?_
               try go_wp2
               go_ret
               exact ⟨by first | rfl | (simp [errW_none, errW_some] <;> rfl) | (simp [*, errW_none, errW_some] <;> rfl), by repeat (first | (with_reducible first | exact HB.out | apply below_alloc | apply pw_below_drewN | apply below_drew1) | exact HB.out)⟩
             ·rw [if_neg c52] at H
              exact absurd H (by simp)
            ·rw [if_neg c51] at H
             exact absurd H (by simp)
        ·rw [if_neg c36] at H
         have c36b0 : ((t285.length : Int) == (t288.length : Int)) = false := beq_eq_false_iff_ne.mpr c36
         have c36b1 : ((t285.length : Int) != (t288.length : Int)) = true := bne_iff_ne.mpr c36
         have c36b2 : (t285.length == t288.length) = false := by first | simpa using c36 | (simp at c36 ⊢; omega)
         obtain rfl := Option.some.inj H
         go_wp2_with (first | ((with_reducible refine gate_callee (f := 15) rfl ?_); refine goesL_ (some 79) rfl rfl Tryd.func15 (by kernel_rfl) rfl #[] rfl (by (try simp only [List.map_toArray, List.map_cons, List.map_nil]); first | done | rfl | (simp only [List.length_drop, List.length_take]; rfl)) ?_; (with_reducible refine (kind_Ops.calls k2  t285 _ A34.out).mono ?_); rintro e w62 ⟨v286, rfl, ho0, hb⟩; refine ⟨_, rfl, ?_⟩; have n0_ := Aside0.mk (Kd.R_below (by (with_reducible repeat (first | apply Kd.R_alloc | apply Kd.R_drewN | apply Kd.R_drew)); exact HO_9.out) hb); have n1_ := Aside0.mk (Kd.R_lower ho0 (below_size (by repeat (first | (with_reducible first | exact HB.out | apply below_alloc | apply pw_below_drewN | apply below_drew1) | exact HB.out)))); have n2_ := Aside0.mk (below_step (by repeat (first | (with_reducible first | exact HB.out | apply below_alloc | apply pw_below_drewN | apply below_drew1) | exact HB.out)) hb); clear HO_9; clear HB; have HO_9 := n0_; have HO287 := n1_; have HB := n2_; clear n0_ n1_ n2_; (try clear hb); (try clear hb2); (try clear hk); (try clear hi); (try clear ho0)) | ((with_reducible refine gate_callee (f := 16) rfl ?_); refine goesL_ (some 80) rfl rfl Tryd.func16 (by kernel_rfl) rfl #[] rfl (by (try simp only [List.map_toArray, List.map_cons, List.map_nil]); first | done | rfl | (simp only [List.length_drop, List.length_take]; rfl)) ?_; (with_reducible refine (computusref23_Ops.calls k2  t288 _ A35.out).mono ?_); rintro e w63 ⟨v289, rfl, ho0, hb⟩; refine ⟨_, rfl, ?_⟩; have n0_ := Aside0.mk (Kd.R_below (by (with_reducible repeat (first | apply Kd.R_alloc | apply Kd.R_drewN | apply Kd.R_drew)); exact HO_9.out) hb); have n1_ := Aside0.mk (Kd.R_elder' (by (with_reducible repeat (first | apply Kd.R_alloc | apply Kd.R_drewN | apply Kd.R_drew)); exact HO287.out) (Kd.R_base ho0) hb); have n2_ := Aside0.mk (Kd.R_lower (Kd.R_new' ho0 (Kd.R_lt (by (with_reducible repeat (first | apply Kd.R_alloc | apply Kd.R_drewN | apply Kd.R_drew)); exact HO287.out))) (below_size (by repeat (first | (with_reducible first | exact HB.out | apply below_alloc | apply pw_below_drewN | apply below_drew1) | exact HB.out)))); have n3_ := Aside0.mk (below_step (by repeat (first | (with_reducible first | exact HB.out | apply below_alloc | apply pw_below_drewN | apply below_drew1) | exact HB.out)) hb); clear HO_9; clear HO287; clear HB; have HO_9 := n0_; have HO287 := n1_; have HO290 := n2_; have HB := n3_; clear n0_ n1_ n2_ n3_; (try clear hb); (try clear hb2); (try clear hk); (try clear hi); (try clear ho0); obtain ⟨Ao64, co64, eo64⟩ := Kd.R_slice HO287.out; subst eo64; obtain ⟨Ao65, co65, eo65⟩ := Kd.R_slice HO290.out; subst eo65))
         go_ret
         exact ⟨by first | rfl | (simp [errW_none, errW_some] <;> rfl) | (simp [*, errW_none, errW_some] <;> rfl), by repeat (first | (with_reducible first | exact HB.out | apply below_alloc | apply pw_below_drewN | apply below_drew1) | exact HB.out)⟩
 ·rw [if_neg c5] at H
  exact absurd H (by simp)
def computuslaw23_KindFinds.Pure : Prop := ∀ (a0 : ByteArray) (l1 : List Int) (a2 : Int) (a3 : ByteArray), a0.size ≤ 140737488351232 → l1.length ≤ maxLen → l1.length * 8 ≤ 140737488351232 → (∀ x ∈ l1, (Lit.int .i64 x).wf = true) → (Lit.int .i64 a2).wf = true → a3.size ≤ 140737488351232 → ∃ k, computuslaw23_KindFinds.f k a0 l1 a2 a3 = some true
theorem computuslaw23_KindFinds.walk (P : computuslaw23_KindFinds.Pure) (a0 : ByteArray) (a1 : Option Addr) (len1 cap1 : Nat) (z1 : List Int) (a2 : Int) (a3 : ByteArray) (w : World) (hTW0 : Tab w) (w0 : a0.size ≤ 140737488351232) (w1 : (a1 = none ∧ len1 = 0 ∧ cap1 = 0 ∧ z1 = []) ∨ ∃ x, a1 = some x ∧ len1 ≤ cap1 ∧ cap1 ≤ maxLen ∧ z1.length = cap1 ∧ (∀ i, i < z1.length → w.cell? (x.add i) = some (.int .i64 (z1.getD i 0))) ∧ ∀ n ∈ z1, (Lit.int .i64 n).wf = true) (y1 : len1 * 8 ≤ 140737488351232) (w2 : (Lit.int .i64 a2).wf = true) (w3 : a3.size ≤ 140737488351232) :
  Calls Tryd.prog 5 #[.string a0, .slice a1 len1 cap1, .int .i64 a2, .string a3] w fun e w' => e = .returned (.bool true) ∧ Below w.heap.size w w' := by
 obtain ⟨l1, rfl, hr1, hm1, hw1, hc1⟩ := ReadsInt.ofRowC w1
 obtain ⟨k, h⟩ := P a0 l1 a2 a3 w0 hm1 y1 hw1 w2 w3
 refine (computuslaw23_KindFinds.calls k a0 _ _ l1 a2 a3 true w hTW0 (Kd.C_of_reads (d := (0 : Int)) (h1 := fun _ => rfl) hr1) hc1 h).mono ?_
 rintro e w' ⟨rfl, hd⟩
 exact ⟨rfl, hd⟩
end Go.Proofs.YtfgogfdbjbnlbaaDoor.PExpr
end
section
namespace Go.Proofs.YtfgogfdbjbnlbaaDoor.PExpr
open Go.RowKit Go.Proofs.YtfgogfdbjbnlbaaDoorW.PrintWords Go.Proofs.YtfgogfdbjbnlbaaDoorW.PrintLast Go.Proofs.YtfgogfdbjbnlbaaDoorW.PrintMore
set_option linter.unusedVariables false
set_option linter.unusedSimpArgs false
theorem drop_head {l : List Int} {n : Nat} (h : n < l.length) : l.drop n = rd l (n : Int) :: l.drop (n + 1) := by
  rw [List.drop_eq_getElem_cons h]
  unfold rd
  rw [Int.toNat_natCast, List.getD_eq_getElem?_getD, List.getElem?_eq_getElem h]
  rfl
theorem same_l0 (a b : List Int) (hl : a.length = b.length) (h4 : a.length ≤ 100) : ∀ (d n k : Nat), n + d = a.length → d < k → computusref23_same.l0 k a b n = some (decide (a.drop n = b.drop n)) := by
  intro d
  induction d with
  | zero =>
    intro n k hn hk
    obtain ⟨k, rfl⟩ : ∃ m, k = m + 1 := ⟨k - 1, by omega⟩
    simp only [computusref23_same.l0]
    rw [if_neg (by omega), List.drop_eq_nil_of_le (by omega), List.drop_eq_nil_of_le (by omega)]
    rfl
  | succ d ih =>
    intro n k hn hk
    obtain ⟨k, rfl⟩ : ∃ m, k = m + 1 := ⟨k - 1, by omega⟩
    simp only [computusref23_same.l0]
    have hw : wrap64 ((n : Int) + 1) = ((n + 1 : Nat) : Int) := by
      unfold wrap64
      omega
    rw [if_pos (by omega), if_pos (by omega), if_pos (by omega), hw, drop_head (l := a) (by omega), drop_head (l := b) (by omega)]
    by_cases h : rd a (n : Int) = rd b (n : Int)
    · rw [if_pos h, ih (n + 1) k (by omega) (by omega), h]
      simp
    · rw [if_neg h]
      simp [h]
theorem same_f (a b : List Int) (k : Nat) (h4 : a.length ≤ 100) (hk : 100 < k) : computusref23_same.f k a b = some (decide (a = b)) := by
  unfold computusref23_same.f
  by_cases hl : a.length = b.length
  · rw [if_pos (by omega)]
    have := same_l0 a b hl h4 a.length 0 k (by omega) (by omega)
    exact this
  · rw [if_neg (by omega)]
    have : ¬ a = b := fun q => hl (by rw [q])
    simp [this]
def refHit (op : ByteArray) (args : List Int) : List RRow → Option Int
  | [] => none
  | r :: l => if r.f0.toList = op.toList then (if r.f1 = args then some r.f2 else refHit op args l) else refHit op args l
def refR (op : ByteArray) : Option Int → Int × Bool × Bool
  | some k => (k, op.toList == [103, 101, 110, 101, 114, 97, 116, 101, 95, 115, 101, 114, 105, 101, 115], true)
  | none => (0, false, false)
theorem ref_l0 (op : ByteArray) (args : List Int) : ∀ (d n k : Nat), n + d = 90 → d + 110 < k → computusref23_Find.l0 k op args rowsR n = some (refR op (refHit op args (rowsR.drop n))) := by
  intro d
  have hl := rowsR_len
  induction d with
  | zero =>
    intro n k hn hk
    obtain ⟨k, rfl⟩ : ∃ m, k = m + 1 := ⟨k - 1, by omega⟩
    simp only [computusref23_Find.l0]
    rw [if_neg (by omega), List.drop_eq_nil_of_le (by omega)]
    rfl
  | succ d ih =>
    intro n k hn hk
    obtain ⟨k, rfl⟩ : ∃ m, k = m + 1 := ⟨k - 1, by omega⟩
    have hlt : n < rowsR.length := by omega
    have hw : wrap64 ((n : Int) + 1) = ((n + 1 : Nat) : Int) := by
      unfold wrap64
      omega
    have hrd : rd_T27 rowsR (n : Int) = rowsR[n] := by
      unfold rd_T27
      rw [Int.toNat_natCast, List.getD_eq_getElem?_getD, List.getElem?_eq_getElem hlt]
      rfl
    simp only [computusref23_Find.l0]
    rw [if_pos (by omega), if_pos (by omega), hrd, hw, List.drop_eq_getElem_cons hlt, refHit]
    have hr := rowsR_args rowsR[n] (List.getElem_mem hlt)
    by_cases h1 : rowsR[n].f0.toList = op.toList
    · rw [if_pos h1, if_pos h1, same_f _ _ k hr.2 (by omega), Option.bind_some]
      by_cases h2 : rowsR[n].f1 = args
      · rw [if_pos (by simpa using h2), if_pos h2]
        rfl
      · rw [if_neg (by simpa using h2), if_neg h2, ih (n + 1) k (by omega) (by omega)]
    · rw [if_neg h1, if_neg h1, ih (n + 1) k (by omega) (by omega)]
def cmpHit (bools : Bool) (a b : Int) : Bool := (decide (a = 2) || decide (a = 3)) && (decide (b = 2) || decide (b = 3)) || decide (a = b) && decide (a ≥ 4) && decide (a ≤ 8) || bools && decide (a = 1) && decide (b = 1)
theorem cmp_iff (bools : Bool) (a b : Int) : cmpHit bools a b = true ↔ (((a = 2 ∨ a = 3) ∧ (b = 2 ∨ b = 3)) ∨ (a = b ∧ a ≥ 4 ∧ a ≤ 8) ∨ (bools = true ∧ a = 1 ∧ b = 1)) := by
  unfold cmpHit
  simp only [Bool.or_eq_true, Bool.and_eq_true, decide_eq_true_eq, and_assoc, or_assoc]
set_option maxHeartbeats 1000000 in
theorem ref_cmp (k : Nat) (op : ByteArray) (a b : Int) (bools : Bool) : computusref23_Find.j0 (k + 1) op [a, b] bools true = if cmpHit bools a b = true then some (1, false, true) else computusref23_Find.j1 k op [a, b] := by
  have e0 : rd [a, b] 0 = a := rfl
  have e1 : rd [a, b] 1 = b := rfl
  have el : (([a, b] : List Int).length : Int) = 2 := rfl
  have key := cmp_iff bools a b
  simp only [computusref23_Find.j0, e0, e1, el]
  rw [if_pos trivial, if_pos (by decide), if_pos (by decide)]
  generalize computusref23_Find.j1 k op [a, b] = Z
  cases bools
  · simp only [Bool.false_eq_true, false_and, or_false] at key
    by_cases hP : ((a = 2 ∨ a = 3) ∧ (b = 2 ∨ b = 3)) ∨ (a = b ∧ a ≥ 4 ∧ a ≤ 8)
    · rw [if_pos (key.2 hP)]
      clear key
      simp only [Bool.false_eq_true, if_false]
      repeat' split
      all_goals first
        | rfl
        | (exfalso; omega)
    · rw [if_neg (fun q => hP (key.1 q))]
      clear key
      simp only [Bool.false_eq_true, if_false]
      repeat' split
      all_goals first
        | rfl
        | (exfalso; omega)
  · simp only [true_and] at key
    by_cases hP : ((a = 2 ∨ a = 3) ∧ (b = 2 ∨ b = 3)) ∨ (a = b ∧ a ≥ 4 ∧ a ≤ 8) ∨ (a = 1 ∧ b = 1)
    · rw [if_pos (key.2 hP)]
      clear key
      simp only [if_true]
      repeat' split
      all_goals first
        | rfl
        | (exfalso; omega)
    · rw [if_neg (fun q => hP (key.1 q))]
      clear key
      simp only [if_true]
      repeat' split
      all_goals first
        | rfl
        | (exfalso; omega)
end Go.Proofs.YtfgogfdbjbnlbaaDoor.PExpr
end
section
namespace Go.Proofs.YtfgogfdbjbnlbaaDoor.PExpr
open Go.RowKit Go.Proofs.YtfgogfdbjbnlbaaDoorW.PrintWords Go.Proofs.YtfgogfdbjbnlbaaDoorW.PrintLast Go.Proofs.YtfgogfdbjbnlbaaDoorW.PrintMore
set_option linter.unusedVariables false
set_option linter.unusedSimpArgs false
def kDec (c : UInt8) : Int := Lib.indexByte kLets c + 1
def argsS : List (List Int) := (tableL.flatMap fun r => (fieldsB r.f1).map fun s => s.data.toList.dropLast.map kDec).eraseDups
def refFull (op : ByteArray) (l : List Int) : Int × Bool × Bool :=
  match computusref23_compares.f op with
  | none => (0, false, false)
  | some (is, bools) =>
    match l with
    | [a, b] => if is = true ∧ cmpHit bools a b = true then (1, false, true) else refR op (refHit op l rowsR)
    | _ => refR op (refHit op l rowsR)
def opsL : List ByteArray := tableL.map (·.f0)
theorem fin_agree : ∀ op ∈ opsL, ∀ a ∈ argsS, findF op a = refFull op a := by decide +kernel
theorem ops_any {op : ByteArray} (h : (opsL.any fun x => decide (x = op)) = true) : op ∈ opsL := by
  obtain ⟨x, hx, he⟩ := List.any_eq_true.1 h
  rw [← of_decide_eq_true he]
  exact hx
theorem rows_any : ∀ r ∈ rowsR, r.f1 ∈ argsS ∧ (opsL.any fun x => decide (x = r.f0)) = true := by decide +kernel
theorem rows_in (r : RRow) (h : r ∈ rowsR) : r.f1 ∈ argsS ∧ r.f0 ∈ opsL := ⟨(rows_any r h).1, ops_any (rows_any r h).2⟩
theorem args_ok : ∀ a ∈ argsS, a.all kOk = true := by decide +kernel
theorem dec_let (k : Int) (h : kOk k = true) : kDec (kLet k) = k := by
  have hk : k = 1 ∨ k = 2 ∨ k = 3 ∨ k = 4 ∨ k = 5 ∨ k = 6 ∨ k = 7 ∨ k = 8 := by
    unfold kOk at h
    simp at h
    omega
  rcases hk with rfl | rfl | rfl | rfl | rfl | rfl | rfl | rfl <;> decide
theorem dec_lets (l : List Int) (h : l.all kOk = true) : (l.map kLet).map kDec = l := by
  rw [List.map_map]
  conv => rhs; rw [← List.map_id l]
  exact List.map_congr_left (fun k hk => dec_let k (List.all_eq_true.1 h k hk))
theorem cmp_ops (op : ByteArray) (h : op ∉ opsL) : ∃ b, computusref23_compares.f op = some (false, b) := by
  have hne : ∀ x, x ∈ opsL → ¬ op.toList = x.toList := fun x hx q => h (by rw [(toList_iff op x).1 q]; exact hx)
  have e : ∀ (x : ByteArray) (l : List UInt8), x ∈ opsL → x.toList = l → ¬ op.toList = l := fun x l hx hl => hl ▸ hne x hx
  unfold computusref23_compares.f
  rw [if_neg (e ⟨#[61]⟩ _ (ops_any (by decide +kernel)) (by rw [ByteArray.toList_eq])), if_neg (e ⟨#[60, 62]⟩ _ (ops_any (by decide +kernel)) (by rw [ByteArray.toList_eq])), if_neg (e ⟨#[60]⟩ _ (ops_any (by decide +kernel)) (by rw [ByteArray.toList_eq])), if_neg (e ⟨#[60, 61]⟩ _ (ops_any (by decide +kernel)) (by rw [ByteArray.toList_eq])), if_neg (e ⟨#[62]⟩ _ (ops_any (by decide +kernel)) (by rw [ByteArray.toList_eq]))]
  have h6 := e ⟨#[62, 61]⟩ [62, 61] (ops_any (by decide +kernel)) (by rw [ByteArray.toList_eq])
  exact ⟨_, by rw [beq_eq_false_iff_ne.mpr h6]⟩
theorem hit_none (op : ByteArray) (l : List Int) : ∀ L : List RRow, (∀ r ∈ L, r.f0.toList = op.toList → r.f1 = l → False) → refHit op l L = none
  | [], _ => rfl
  | r :: L, h => by
    rw [refHit, hit_none op l L (fun x hx => h x (by simp [hx]))]
    by_cases h1 : r.f0.toList = op.toList
    · rw [if_pos h1, if_neg (fun q => h r (by simp) h1 q)]
    · rw [if_neg h1]
theorem tab_none (op b : ByteArray) : ∀ L : List Row, (∀ r ∈ L, ¬ r.f0 = op) → tabHit op b L = none
  | [], _ => rfl
  | r :: L, h => by rw [tabHit, if_neg (h r (by simp)), tab_none op b L (fun x hx => h x (by simp [hx]))]
theorem row_some (b : ByteArray) : ∀ (S : List ByteArray) (c : UInt8), rowHit b S = some c → ∃ s ∈ S, (cutP s b).2 = true ∧ (cutP s b).1.size = 1
  | [], c, h => by cases h
  | s :: S, c, h => by
    rw [rowHit] at h
    by_cases h1 : (cutP s b).2 = true ∧ (cutP s b).1.size = 1
    · exact ⟨s, by simp, h1⟩
    · rw [if_neg h1] at h
      obtain ⟨x, hx, h2⟩ := row_some b S c h
      exact ⟨x, by simp [hx], h2⟩
theorem tab_some (op b : ByteArray) : ∀ (L : List Row) (c : UInt8), tabHit op b L = some c → ∃ r ∈ L, ∃ s ∈ fieldsB r.f1, (cutP s b).2 = true ∧ (cutP s b).1.size = 1
  | [], c, h => by cases h
  | r :: L, c, h => by
    rw [tabHit] at h
    by_cases h0 : r.f0 = op
    · rw [if_pos h0] at h
      cases hr : rowHit b (fieldsB r.f1) with
      | some c' =>
        obtain ⟨s, hs, h1⟩ := row_some b _ c' hr
        exact ⟨r, by simp, s, hs, h1⟩
      | none =>
        rw [hr] at h
        obtain ⟨x, hx, h2⟩ := tab_some op b L c h
        exact ⟨x, by simp [hx], h2⟩
    · rw [if_neg h0] at h
      obtain ⟨x, hx, h2⟩ := tab_some op b L c h
      exact ⟨x, by simp [hx], h2⟩
theorem cut_init (s b : ByteArray) (h : (cutP s b).2 = true ∧ (cutP s b).1.size = 1) : b.data.toList = s.data.toList.dropLast := by
  obtain ⟨h1, h2⟩ := h
  have hf := cutP_f s b
  revert hf h1 h2
  generalize cutP s b = p
  intro h1 h2 hf
  unfold strings_CutPrefix.f stringslite_CutPrefix.f stringslite_HasPrefix.f at hf
  by_cases hs : (s.size : Int) ≥ (b.size : Int)
  · rw [if_pos hs, if_pos (by omega), if_pos (by omega)] at hf
    simp only [Option.bind_some] at hf
    split at hf
    · rename_i hp
      obtain rfl := Option.some.inj hf
      have hp' : (s.extract 0 b.size).toList = b.toList := by simpa using hp
      have he := (toList_iff _ _).1 hp'
      have hsz : s.size = b.size + 1 := by
        have : (s.extract b.size s.size).size = 1 := by simpa using h2
        simp at this
        omega
      have hl : s.data.toList.length = b.size + 1 := by simpa using hsz
      rw [← he, ByteArray.data_extract, Array.toList_extract, List.dropLast_eq_take, hl]
      simp
    · obtain rfl := Option.some.inj hf
      cases h1
  · rw [if_neg hs] at hf
    obtain rfl := Option.some.inj hf
    cases h1
theorem find_out (op : ByteArray) (l : List Int) (h : l ∉ argsS) : findF op l = (0, false, false) := by
  unfold findF
  by_cases hk : l.all kOk = true
  · rw [if_pos hk]
    cases ht : tabHit op ⟨(l.map kLet).toArray⟩ tableL with
    | none => rfl
    | some c =>
      exfalso
      obtain ⟨r, hr, s, hs, h1⟩ := tab_some op _ tableL c ht
      have h2 := cut_init s _ h1
      have h3 : l.map kLet = s.data.toList.dropLast := h2
      refine h ?_
      unfold argsS
      rw [List.mem_eraseDups, List.mem_flatMap]
      exact ⟨r, hr, List.mem_map.2 ⟨s, hs, by rw [← h3]; exact dec_lets l hk⟩⟩
  · rw [if_neg hk]
theorem cmp_in (bools : Bool) (a b : Int) (h : cmpHit bools a b = true) : [a, b] ∈ argsS := by
  rcases (cmp_iff bools a b).1 h with ⟨h1, h2⟩ | ⟨rfl, h1, h2⟩ | ⟨_, rfl, rfl⟩
  · rcases h1 with rfl | rfl <;> rcases h2 with rfl | rfl <;> decide +kernel
  · have : a = 4 ∨ a = 5 ∨ a = 6 ∨ a = 7 ∨ a = 8 := by omega
    rcases this with rfl | rfl | rfl | rfl | rfl <;> decide +kernel
  · decide +kernel
theorem cmp_some (op : ByteArray) : ∃ p, computusref23_compares.f op = some p := by
  unfold computusref23_compares.f
  repeat' split
  all_goals exact ⟨_, rfl⟩
theorem full_out (op : ByteArray) (l : List Int) (h : l ∉ argsS) : refFull op l = (0, false, false) := by
  have hh : refHit op l rowsR = none := hit_none op l rowsR (fun r hr _ h2 => h (h2 ▸ (rows_in r hr).1))
  obtain ⟨⟨is, bools⟩, hc⟩ := cmp_some op
  unfold refFull
  rw [hc, hh]
  simp only
  split
  · rename_i a b
    rw [if_neg (fun q => h (cmp_in bools a b q.2))]
    rfl
  · rfl
theorem agree (op : ByteArray) (l : List Int) : findF op l = refFull op l := by
  by_cases h : l ∈ argsS
  · by_cases ho : op ∈ opsL
    · exact fin_agree op ho l h
    · obtain ⟨b, hc⟩ := cmp_ops op ho
      have hh : refHit op l rowsR = none := hit_none op l rowsR (fun r hr h1 _ => ho ((toList_iff _ _).1 h1 ▸ (rows_in r hr).2))
      have e1 : refFull op l = (0, false, false) := by
        unfold refFull
        rw [hc, hh]
        simp only
        split
        · rw [if_neg (fun q => by cases q.1)]
          rfl
        · rfl
      rw [e1]
      unfold findF
      rw [if_pos (args_ok l h), tab_none op _ tableL (fun r hr q => ho (q ▸ List.mem_map.2 ⟨r, hr, rfl⟩))]
      rfl
  · rw [find_out op l h, full_out op l h]
theorem ref_j1 (k : Nat) (op : ByteArray) (l : List Int) (hk : 300 ≤ k) : computusref23_Find.j1 k op l = some (refR op (refHit op l rowsR)) := by
  obtain ⟨k, rfl⟩ : ∃ m, k = m + 1 := ⟨k - 1, by omega⟩
  simp only [computusref23_Find.j1]
  rw [show computusref23_Table.f = some rowsR from rfl, Option.bind_some]
  have := ref_l0 op l 90 0 k (by omega) (by omega)
  simpa using this
theorem ref_j0 (k : Nat) (op : ByteArray) (l : List Int) (b : Bool) (hk : 300 ≤ k) : computusref23_Find.j0 (k + 1) op l b false = some (refR op (refHit op l rowsR)) := by
  simp only [computusref23_Find.j0]
  rw [if_neg (by simp), ref_j1 k op l hk]
theorem ref_find (k : Nat) (op : ByteArray) (l : List Int) (hk : 301 ≤ k) : computusref23_Find.f k op l = some (refFull op l) := by
  obtain ⟨k, rfl⟩ : ∃ m, k = m + 1 := ⟨k - 1, by omega⟩
  obtain ⟨⟨is, bools⟩, hc⟩ := cmp_some op
  unfold computusref23_Find.f refFull
  rw [hc, Option.bind_some]
  cases is with
  | false =>
    simp only [Bool.false_eq_true, if_false, false_and]
    rw [ref_j0 k op l _ (by omega)]
    split <;> rfl
  | true =>
    simp only [if_true, true_and]
    by_cases hl : l.length = 2
    · match l, hl with
      | [a, b], _ =>
        rw [show ((([a, b] : List Int).length : Int) == 2) = true from rfl, ref_cmp k op a b bools, ref_j1 k op [a, b] (by omega)]
        simp only
        split <;> rfl
    · rw [show ((l.length : Int) == 2) = false from beq_eq_false_iff_ne.mpr (by omega), ref_j0 k op l _ (by omega)]
      match l, hl with
      | [], _ => rfl
      | [_], _ => rfl
      | _ :: _ :: _ :: _, _ => rfl
end Go.Proofs.YtfgogfdbjbnlbaaDoor.PExpr
end
section
namespace Go.Proofs.YtfgogfdbjbnlbaaDoor.Pure
open Go.RowKit Go.Proofs.YtfgogfdbjbnlbaaDoor.PExpr Go.Proofs.YtfgogfdbjbnlbaaDoorW.PrintWords Go.Proofs.YtfgogfdbjbnlbaaDoorW.PrintLast Go.Proofs.YtfgogfdbjbnlbaaDoorW.PrintMore
set_option linter.unusedVariables false
set_option linter.unusedSimpArgs false
theorem name_same (k : Int) : ∃ s, kind_Name.f k = some s ∧ computusref23_Name.f k = some s := by
  by_cases h0 : k < 1
  · exact ⟨⟨#[]⟩, by unfold kind_Name.f; rw [if_pos h0], by unfold computusref23_Name.f; rw [if_pos h0]⟩
  by_cases h1 : k > 8
  · exact ⟨⟨#[]⟩, by unfold kind_Name.f; rw [if_neg h0, if_pos h1], by unfold computusref23_Name.f; rw [if_neg h0, if_pos h1]⟩
  have hk : k = 1 ∨ k = 2 ∨ k = 3 ∨ k = 4 ∨ k = 5 ∨ k = 6 ∨ k = 7 ∨ k = 8 := by omega
  rcases hk with rfl | rfl | rfl | rfl | rfl | rfl | rfl | rfl
  · exact ⟨(kind_Name.f 1).getD ⟨#[]⟩, by kernel_rfl, by kernel_rfl⟩
  · exact ⟨(kind_Name.f 2).getD ⟨#[]⟩, by kernel_rfl, by kernel_rfl⟩
  · exact ⟨(kind_Name.f 3).getD ⟨#[]⟩, by kernel_rfl, by kernel_rfl⟩
  · exact ⟨(kind_Name.f 4).getD ⟨#[]⟩, by kernel_rfl, by kernel_rfl⟩
  · exact ⟨(kind_Name.f 5).getD ⟨#[]⟩, by kernel_rfl, by kernel_rfl⟩
  · exact ⟨(kind_Name.f 6).getD ⟨#[]⟩, by kernel_rfl, by kernel_rfl⟩
  · exact ⟨(kind_Name.f 7).getD ⟨#[]⟩, by kernel_rfl, by kernel_rfl⟩
  · exact ⟨(kind_Name.f 8).getD ⟨#[]⟩, by kernel_rfl, by kernel_rfl⟩
def nmL : List ByteArray := (kind_names.f).getD []
theorem nmL_len : nmL.length = 8 := by kernel_rfl
def posN (s : ByteArray) : Nat → List ByteArray → Int
  | _, [] => -1
  | n, x :: l => if s.toList = x.toList then (n : Int) else posN s (n + 1) l
theorem idx_l0 (s : ByteArray) : ∀ (d n k : Nat), n + d = 8 → d < k → slices_Index_string_string.l0 k nmL s 8 n = some (posN s n (nmL.drop n)) := by
  intro d
  have hl := nmL_len
  induction d with
  | zero =>
    intro n k hn hk
    obtain ⟨k, rfl⟩ : ∃ m, k = m + 1 := ⟨k - 1, by omega⟩
    simp only [slices_Index_string_string.l0]
    rw [if_neg (by omega), List.drop_eq_nil_of_le (by omega)]
    rfl
  | succ d ih =>
    intro n k hn hk
    obtain ⟨k, rfl⟩ : ∃ m, k = m + 1 := ⟨k - 1, by omega⟩
    have hlt : n < nmL.length := by omega
    have hw : wrap64 ((n : Int) + 1) = ((n + 1 : Nat) : Int) := by
      unfold wrap64
      omega
    have hrd : rdOf ByteArray.empty nmL (n : Int) = nmL[n] := by
      unfold rdOf
      rw [Int.toNat_natCast, List.getD_eq_getElem?_getD, List.getElem?_eq_getElem hlt]
      rfl
    simp only [slices_Index_string_string.l0]
    rw [if_pos (by omega), if_pos (by omega), if_pos (by omega), hrd, hw, List.drop_eq_getElem_cons hlt, posN]
    by_cases h : s.toList = nmL[n].toList
    · rw [if_pos h, if_pos h]
    · rw [if_neg h, if_neg h, ih (n + 1) k (by omega) (by omega)]
theorem posN_bound (s : ByteArray) : ∀ (l : List ByteArray) (n : Nat), -1 ≤ posN s n l ∧ posN s n l < n + l.length
  | [], n => by simp [posN]; omega
  | x :: l, n => by
    rw [posN]
    split
    · simp; omega
    · have := posN_bound s l (n + 1)
      simp
      omega
theorem kind_some (s : ByteArray) (k : Nat) (hk : 20 ≤ k) : kind_Kind.f k s = some (posN s 0 nmL + 1) := by
  have hb := posN_bound s nmL 0
  rw [nmL_len] at hb
  unfold kind_Kind.f slices_Index_string_string.f
  rw [show kind_names.f = some nmL from rfl, Option.bind_some, nmL_len]
  have := idx_l0 s 8 0 k (by omega) (by omega)
  rw [List.drop_zero] at this
  rw [show slices_Index_string_string.l0 k nmL s ((8 : Nat) : Int) 0 = some (posN s 0 nmL) from this, Option.bind_some]
  congr 1
  unfold wrap64
  omega
theorem ref_names : ∀ n : Fin 8, computusref23_Name.f ((n.val : Int) + 1) = some (nmL.getD n.val ⟨#[]⟩) := by decide +kernel
theorem ref_name (n : Nat) (h : n < 8) : computusref23_Name.f ((n : Int) + 1) = some (nmL[n]'(by rw [nmL_len]; exact h)) := by
  rw [ref_names ⟨n, h⟩, List.getD_eq_getElem?_getD, List.getElem?_eq_getElem (by rw [nmL_len]; exact h)]
  rfl
theorem rkind_l0 (s : ByteArray) : ∀ (d n k : Nat), n + d = 8 → d < k → computusref23_Kind.l0 k s ((n : Int) + 1) = some (posN s n (nmL.drop n) + 1) := by
  intro d
  have hl := nmL_len
  induction d with
  | zero =>
    intro n k hn hk
    obtain ⟨k, rfl⟩ : ∃ m, k = m + 1 := ⟨k - 1, by omega⟩
    simp only [computusref23_Kind.l0]
    rw [if_neg (by omega), List.drop_eq_nil_of_le (by omega)]
    rfl
  | succ d ih =>
    intro n k hn hk
    obtain ⟨k, rfl⟩ : ∃ m, k = m + 1 := ⟨k - 1, by omega⟩
    have hlt : n < nmL.length := by omega
    have hw : wrap64 ((n : Int) + 1 + 1) = ((n + 1 : Nat) : Int) + 1 := by
      unfold wrap64
      omega
    simp only [computusref23_Kind.l0]
    rw [if_pos (by omega), ref_name n (by omega), Option.bind_some, hw, List.drop_eq_getElem_cons hlt, posN]
    by_cases h : s.toList = nmL[n].toList
    · rw [if_pos h.symm, if_pos h]
    · rw [if_neg (fun q => h q.symm), if_neg h, ih (n + 1) k (by omega) (by omega)]
theorem rkind_some (s : ByteArray) (k : Nat) (hk : 20 ≤ k) : computusref23_Kind.f k s = some (posN s 0 nmL + 1) := by
  unfold computusref23_Kind.f
  have := rkind_l0 s 8 0 k (by omega) (by omega)
  rw [List.drop_zero] at this
  exact this
theorem ops_end : ((kind_Ops.f 150).bind fun t285 => ((computusref23_Ops.f 150).bind fun t288 => (if (t285.length : Int) = (t288.length : Int) then (computuslaw23_KindFinds.l1 150 t285 t288 0) else (some false)))) = some true := by kernel_rfl
theorem own_l0 (l : List Int) (hl : l.length < 17592186044416) : ∀ (d n : Nat), n + d = l.length → computuslaw23_KindFinds.l0 (d + 151) l l n = some true := by
  intro d
  induction d with
  | zero =>
    intro n hn
    have key : ∀ K, K = 150 → computuslaw23_KindFinds.l0 (K + 1) l l n = some true := fun K hK => by
      simp only [computuslaw23_KindFinds.l0]
      rw [if_neg (by omega), hK]
      exact ops_end
    exact key 150 rfl
  | succ d ih =>
    intro n hn
    have h0 := ih (n + 1) (by omega)
    rw [show d + 1 + 151 = (d + 151) + 1 by omega]
    revert h0
    generalize d + 151 = K
    intro h0
    have hw : wrap64 ((n : Int) + 1) = ((n + 1 : Nat) : Int) := by
      unfold wrap64
      omega
    simp only [computuslaw23_KindFinds.l0]
    rw [if_pos (by omega), if_pos (by omega), if_pos (by omega), hw, if_pos trivial]
    exact h0
theorem KindFinds : computuslaw23_KindFinds.Pure := by
  intro a0 l1 a2 a3 w0 _ w1 _ _ w3
  have hl : l1.length < 17592186044416 := by omega
  refine ⟨l1.length + 400, ?_⟩
  obtain ⟨s, hs1, hs2⟩ := name_same a2
  unfold computuslaw23_KindFinds.f
  rw [if_pos (by simpa using hl), List.nil_append, Option.bind_some]
  unfold kind_Find.f
  rw [if_pos (by omega), Option.bind_some, ref_find _ a0 l1 (by omega), Option.bind_some, agree a0 l1, if_pos rfl, if_neg (by simp), if_neg (by simp), hs1, Option.bind_some, hs2, Option.bind_some, if_pos rfl, kind_some a3 _ (by omega), Option.bind_some, rkind_some a3 _ (by omega), Option.bind_some]
  rw [show (posN a3 0 nmL + 1 != posN a3 0 nmL + 1) = false by simp]
  rw [show l1.length + 400 = (l1.length + 399) + 1 by omega]
  have hj : ∀ K, computuslaw23_KindFinds.j0 (K + 1) l1 l1 false = computuslaw23_KindFinds.l0 K l1 l1 0 := fun K => by
    simp only [computuslaw23_KindFinds.j0]
    rw [if_neg (by simp)]
  rw [hj]
  have h0 := own_l0 l1 hl l1.length 0 (by omega)
  exact at_rounds (g := fun k => computuslaw23_KindFinds.l0 k l1 l1 0) (fun k => (computuslaw23_KindFinds.mono_l k).2.1 l1 l1 0) (show l1.length + 151 ≤ l1.length + 399 by omega) h0
end Go.Proofs.YtfgogfdbjbnlbaaDoor.Pure
end
