/- What the claim of CardExprSum needs, out of the session's texts, in their order. -/
import Derived.Test.YtnjoncbgekonbaaDoorQuJ
section
namespace Go.Proofs.YtnjoncbgekonbaaDoor.PExpr
open Go.RowKit Go.Proofs.YtnjoncbgekonbaaDoorW.PrintWords Go.Proofs.YtnjoncbgekonbaaDoorW.PrintLast Go.Proofs.YtnjoncbgekonbaaDoorW.PrintMore
attribute [local go_sem] max2_int min2_int max_two min_two max_three min_three max_four min_four   -- for this text's walks alone
set_option linter.unusedVariables false
set_option linter.unusedSimpArgs false
def expr_Parse.f (a0 : ByteArray) : Option (Int × ByteArray × (List (S24)) × Int × Int × Int) := (parseS a0).map fun r => (r.1.f0, r.1.f1, r.1.f2, r.1.f3, r.2.1, r.2.2)
theorem expr_Parse.calls (a0 : ByteArray) (r1 : Int) (r2 : ByteArray) (r3 : List (S24)) (r4 : Int) (r5 : Int) (r6 : Int) (w : World) (h : expr_Parse.f a0 = some (r1, r2, r3, r4, r5, r6)) :
  Calls Tryd.prog 6 #[.string a0] w fun e w' => ∃ v2_ : Value, e = .returned (.tuple #[.agg #[.int .i64 r1, .string r2, v2_, .int .i64 r4], .int .i64 r5, .int .i64 r6]) ∧ Kd.R k24 24 w' w.heap.size (fun _ => True) v2_ r3 ∧ Below w.heap.size w w' := by
 obtain ⟨⟨n, pos, why⟩, hp, he⟩ := Option.map_eq_some_iff.1 h
 injection he with e1 he
 injection he with e2 he
 injection he with e3 he
 injection he with e4 he
 injection he with e5 e6
 subst e1 e2 e3 e4 e5 e6
 exact parse_body a0 n pos why w hp
def strings_ReplaceAll.f (a0 a1 a2 : ByteArray) : Option ByteArray := none
theorem strings_ReplaceAll.calls (a0 a1 a2 : ByteArray) (r : ByteArray) (w : World) (h : strings_ReplaceAll.f a0 a1 a2 = some r) :
  Calls Tryd.prog 30 #[.string a0, .string a1, .string a2] w fun e w' => e = .returned (.string r) ∧ Drawn0 w w' := by cases h
def strings_Join.f (l0 : List ByteArray) (a1 : ByteArray) : Option ByteArray := if l0.length ≤ 140737488355328 then (if (Lib.join (l0.map (·.data.toList)) a1.data.toList).length ≤ 140737488355328 then some ⟨(Lib.join (l0.map (·.data.toList)) a1.data.toList).toArray⟩ else none) else none
theorem strings_Join.calls (A0 : Option Addr) (c0 : Nat) (l0 : List ByteArray) (a1 : ByteArray) (r : ByteArray) (w : World) (hr0 : Kd.C Kd.string w A0 l0.length l0) (hc0 : l0.length ≤ c0) (h : strings_Join.f l0 a1 = some r) :
  Calls Tryd.prog 31 #[.slice A0 l0.length c0, .string a1] w fun e w' => e = .returned (.string r) ∧ Below w.heap.size w w' := by
 unfold strings_Join.f at h
 split at h
 ·rename_i h1
  split at h
  ·rename_i h2
   obtain rfl := Option.some.inj h
   cases l0 with
   | nil =>
    refine (Tryd.strings_Join_none A0 c0 a1 w).mono ?_
    rintro e w' ⟨rfl, rfl⟩
    exact ⟨rfl, Below.refl _ _⟩
   | cons x l =>
    obtain ⟨ad, rfl, hc⟩ := Kd.at_string hr0 0 (by omega) (by simp)
    have hcs : ∀ (j : Nat) y, (x :: l)[j]? = some y → w.cell? (ad.add j) = some (.string y) := fun j y hj => by
     have hlt : j < (x :: l).length := (List.getElem?_eq_some_iff.1 hj).1
     obtain ⟨ad', he, hc'⟩ := Kd.at_string hr0 (j : Int) (by omega) (by omega)
     obtain rfl := Option.some.inj he
     have e : rdOf ByteArray.empty (x :: l) (j : Int) = y := by
      unfold rdOf
      rw [Int.toNat_natCast, List.getD_eq_getElem?_getD, hj]
      rfl
     rw [e, Int.toNat_natCast] at hc'
     exact hc'
    obtain ⟨bk, o, sp⟩ := ad
    have hsp : sp = none := by
     cases sp with
     | none => rfl
     | some n =>
      exfalso
      have h0 := hcs 0 x rfl
      simp only [World.cell?, Addr.add] at h0
      split at h0
      ·simp at h0
      ·cases h0
    subst hsp
    have hbk : bk < w.heap.size := by
     have h0 := hcs 0 x rfl
     simp only [World.cell?, Addr.add] at h0
     split at h0
     ·rename_i q
      exact (Array.getElem?_eq_some_iff.1 q).1
     ·cases h0
    exact Tryd.strings_Join bk o c0 (x :: l) a1 w (fun j y hj => by
     have e : (⟨bk, o, none⟩ : Addr).add j = ⟨bk, o + j, none⟩ := by cases j <;> rfl
     rw [← e]
     exact hcs j y hj) hbk h1 hc0 h2
  ·cases h
 ·cases h
mutual
def expr_String.l0 : Nat → List ByteArray → List (S24) → Int → Int → Int → ByteArray → List (S24) → Int → Option (ByteArray)
 | 0, _, _, _, _, _, _, _, _ => none
 | k + 1, x3, x7, x8, x9, x132000, x132001, x132002, x132003 => if x9 < x8 then (if 0 ≤ x9 then (if x9 < (x7.length : Int) then ((expr_String.f k ((rd_T24 x7 x9).f0) ((rd_T24 x7 x9).f1) ((rd_T24 x7 x9).f2) ((rd_T24 x7 x9).f3)).bind fun t134 => (if x3.length < 8796093022208 then (expr_String.l0 k (x3 ++ [t134]) x7 x8 (wrap64 (x9 + 1)) x132000 x132001 x132002 x132003) else (none))) else (none)) else (none)) else (if x132000 = 3 then ((strings_ReplaceAll.f x132001 (⟨#[39]⟩ : ByteArray) (⟨#[39, 39]⟩ : ByteArray)).bind fun t138 => (if 1 + t138.size ≤ 9223372036854775807 then (if ((⟨#[39]⟩ : ByteArray) ++ t138).size + 1 ≤ 9223372036854775807 then (some (((⟨#[39]⟩ : ByteArray) ++ t138) ++ (⟨#[39]⟩ : ByteArray))) else (none)) else (none))) else (if x132000 = 5 then (if x132001.size + 1 ≤ 9223372036854775807 then (if 0 < (x3.length : Int) then (if (x132001 ++ (⟨#[32]⟩ : ByteArray)).size + (rdOf ByteArray.empty x3 0).size ≤ 9223372036854775807 then (some ((x132001 ++ (⟨#[32]⟩ : ByteArray)) ++ (rdOf ByteArray.empty x3 0))) else (none)) else (none)) else (none)) else (if x132000 = 6 then (if 0 < (x3.length : Int) then (if 3 + (rdOf ByteArray.empty x3 0).size ≤ 9223372036854775807 then (if ((⟨#[40, 45, 32]⟩ : ByteArray) ++ (rdOf ByteArray.empty x3 0)).size + 1 ≤ 9223372036854775807 then (some (((⟨#[40, 45, 32]⟩ : ByteArray) ++ (rdOf ByteArray.empty x3 0)) ++ (⟨#[41]⟩ : ByteArray))) else (none)) else (none)) else (none)) else (if x132000 = 7 then (if 0 < (x3.length : Int) then (if 5 + (rdOf ByteArray.empty x3 0).size ≤ 9223372036854775807 then (if ((⟨#[40, 110, 111, 116, 32]⟩ : ByteArray) ++ (rdOf ByteArray.empty x3 0)).size + 1 ≤ 9223372036854775807 then (some (((⟨#[40, 110, 111, 116, 32]⟩ : ByteArray) ++ (rdOf ByteArray.empty x3 0)) ++ (⟨#[41]⟩ : ByteArray))) else (none)) else (none)) else (none)) else (if x132000 = 8 then (if 1 + x132001.size ≤ 9223372036854775807 then (if ((⟨#[32]⟩ : ByteArray) ++ x132001).size + 1 ≤ 9223372036854775807 then ((strings_Join.f x3 (((⟨#[32]⟩ : ByteArray) ++ x132001) ++ (⟨#[32]⟩ : ByteArray))).bind fun t142 => (if 1 + t142.size ≤ 9223372036854775807 then (if ((⟨#[40]⟩ : ByteArray) ++ t142).size + 1 ≤ 9223372036854775807 then (some (((⟨#[40]⟩ : ByteArray) ++ t142) ++ (⟨#[41]⟩ : ByteArray))) else (none)) else (none))) else (none)) else (none)) else (if x132000 = 9 then (if x132001.size + 1 ≤ 9223372036854775807 then ((strings_Join.f x3 (⟨#[44, 32]⟩ : ByteArray)).bind fun t143 => (if (x132001 ++ (⟨#[40]⟩ : ByteArray)).size + t143.size ≤ 9223372036854775807 then (if ((x132001 ++ (⟨#[40]⟩ : ByteArray)) ++ t143).size + 1 ≤ 9223372036854775807 then (some (((x132001 ++ (⟨#[40]⟩ : ByteArray)) ++ t143) ++ (⟨#[41]⟩ : ByteArray))) else (none)) else (none))) else (none)) else (if x132000 = 10 then (if 0 < (x3.length : Int) then (if 1 + (rdOf ByteArray.empty x3 0).size ≤ 9223372036854775807 then (if ((⟨#[40]⟩ : ByteArray) ++ (rdOf ByteArray.empty x3 0)).size + 2 ≤ 9223372036854775807 then (if (((⟨#[40]⟩ : ByteArray) ++ (rdOf ByteArray.empty x3 0)) ++ (⟨#[58, 58]⟩ : ByteArray)).size + x132001.size ≤ 9223372036854775807 then (if ((((⟨#[40]⟩ : ByteArray) ++ (rdOf ByteArray.empty x3 0)) ++ (⟨#[58, 58]⟩ : ByteArray)) ++ x132001).size + 1 ≤ 9223372036854775807 then (some (((((⟨#[40]⟩ : ByteArray) ++ (rdOf ByteArray.empty x3 0)) ++ (⟨#[58, 58]⟩ : ByteArray)) ++ x132001) ++ (⟨#[41]⟩ : ByteArray))) else (none)) else (none)) else (none)) else (none)) else (none)) else (some x132001))))))))
def expr_String.f : Nat → Int → ByteArray → List (S24) → Int → Option (ByteArray)
 | 0, _, _, _, _ => none
 | k + 1, a0_0, a0_1, l0_2, a0_3 => expr_String.l0 k ([] : List ByteArray) l0_2 (l0_2.length : Int) 0 a0_0 a0_1 l0_2 a0_3
end
theorem expr_String.mono_l : ∀ k, (∀ y0 y1 y2 y3, LeO (expr_String.f k y0 y1 y2 y3) (expr_String.f (k + 1) y0 y1 y2 y3)) ∧ (∀ y0 y1 y2 y3 y4 y5 y6 y7, LeO (expr_String.l0 k y0 y1 y2 y3 y4 y5 y6 y7) (expr_String.l0 (k + 1) y0 y1 y2 y3 y4 y5 y6 y7))
 | 0 => ⟨fun _ _ _ _ r h => by simp [expr_String.f] at h, fun _ _ _ _ _ _ _ _ r h => by simp [expr_String.l0] at h⟩
 | k + 1 => by
  obtain ⟨ih0, ih1⟩ := expr_String.mono_l k
  refine ⟨?_, ?_⟩
  ·intro y0 y1 y2 y3
   unfold expr_String.f
   repeat' first
   | (with_reducible exact ih0 _ _ _ _)
   | (with_reducible exact ih1 _ _ _ _ _ _ _ _)
   | (with_reducible exact LeO.refl _)
   | (with_reducible exact LeO.none _)
   | (with_reducible refine LeO.ite ?_ ?_)
   | (with_reducible refine LeO.bind ?_ (fun _ => ?_))
   | exact ih0 _ _ _ _
   | exact ih1 _ _ _ _ _ _ _ _
   | exact LeO.none _
   | refine LeO.ite ?_ ?_
   | refine LeO.bind ?_ (fun _ => ?_)
  ·intro y0 y1 y2 y3 y4 y5 y6 y7
   unfold expr_String.l0
   repeat' first
   | (with_reducible exact ih0 _ _ _ _)
   | (with_reducible exact ih1 _ _ _ _ _ _ _ _)
   | (with_reducible exact LeO.refl _)
   | (with_reducible exact LeO.none _)
   | (with_reducible refine LeO.ite ?_ ?_)
   | (with_reducible refine LeO.bind ?_ (fun _ => ?_))
   | exact ih0 _ _ _ _
   | exact ih1 _ _ _ _ _ _ _ _
   | exact LeO.none _
   | refine LeO.ite ?_ ?_
   | refine LeO.bind ?_ (fun _ => ?_)
theorem expr_String.mono : ∀ a0 a1 a2 a3 k, LeO (expr_String.f k a0 a1 a2 a3) (expr_String.f (k + 1) a0 a1 a2 a3) := by
 intro a0 a1 a2 a3 k
 obtain ⟨ih0, ih1⟩ := expr_String.mono_l k
 exact ih0 a0 a1 a2 a3
def expr_String.T11 : Bool × List (List Nat × List Nat) := (true, [([], []), ([0], [0]), ([1], [1]), ([], []), ([3], [3]), ([4], [4]), ([2, 5], [2, 5]), ([6, 0, 1, 2, 3, 4, 5, 6], [6])])
def expr_String.B11 : List Nat := [0, 1, 3, 0, 8, 24, 63, 127]
theorem expr_String.tab11 : rtab .any (opsOf Tryd.f16 11) = expr_String.T11 := by kernel_rfl
theorem expr_String.bits11 : waitsOk expr_String.T11.2 expr_String.B11 = true := by kernel_rfl
def expr_String.T19 : Bool × List (List Nat × List Nat) := (true, [([], []), ([0], [0]), ([1], [1]), ([], []), ([3], [3]), ([2, 4], [2, 4]), ([5], [5]), ([6, 4, 0, 1, 2, 3, 4, 5, 6], [6])])
def expr_String.B19 : List Nat := [0, 1, 3, 0, 8, 31, 63, 127]
theorem expr_String.tab19 : rtab .any (opsOf Tryd.f16 19) = expr_String.T19 := by kernel_rfl
theorem expr_String.bits19 : waitsOk expr_String.T19.2 expr_String.B19 = true := by kernel_rfl
def expr_String.T21 : Bool × List (List Nat × List Nat) := (true, [([], []), ([0], [0]), ([1], [1]), ([2], [2]), ([3], [3]), ([], []), ([5], [5]), ([4, 6], [4, 6]), ([7], [7]), ([8, 0, 1, 2, 3, 4, 5, 6, 7, 8], [8])])
def expr_String.B21 : List Nat := [0, 1, 3, 7, 15, 0, 32, 127, 255, 511]
theorem expr_String.tab21 : rtab .any (opsOf Tryd.f16 21) = expr_String.T21 := by kernel_rfl
theorem expr_String.bits21 : waitsOk expr_String.T21.2 expr_String.B21 = true := by kernel_rfl
set_option maxHeartbeats 8000000 in
set_option maxRecDepth 100000 in
theorem expr_String.calls (k : Nat) : ∀ (a0_0 : Int) (a0_1 : ByteArray) (A0_2 : Option Addr) (c0_2 : Nat) (l0_2 : List (S24)) (a0_3 : Int) (r : ByteArray) (w : World) (hr0_2 : Kd.C k24 w A0_2 l0_2.length l0_2) (hc0_2 : l0_2.length ≤ c0_2) (h : expr_String.f k a0_0 a0_1 l0_2 a0_3 = some r),
  Calls Tryd.prog 16 #[.agg #[.int .i64 a0_0, .string a0_1, .slice A0_2 l0_2.length c0_2, .int .i64 a0_3]] w fun e w' => e = .returned (.string r) ∧ Below w.heap.size w w' := by
 induction k using Nat.strongRecOn with
 | _ k ih =>
 intro a0_0 a0_1 A0_2 c0_2 l0_2 a0_3 r w hr0_2 hc0_2 h
 cases k with
 | zero => exact absurd h (by simp [expr_String.f])
 | succ k =>
 simp only [expr_String.f] at h
 have hu24 := Tryd.underlying24
 have HR0_2 := Aside0.mk hr0_2
 have HC0_2 := Aside0.mk hc0_2
 clear hr0_2 hc0_2
 have HB := Aside0.mk (Below.refl w.heap.size w)
 have H : (expr_String.l0 k ([] : List ByteArray) l0_2 (l0_2.length : Int) 0 a0_0 a0_1 l0_2 a0_3) = some r := h
 clear h
 have H' := Aside0.mk H
 clear H
 go_enter Tryd.func16, Tryd.ntmps16
 go_wp2_with (first | ((with_reducible refine gate_dst (N := 1) rfl ?_); refine box_event ?hg (N := 1) ?hd (cs := #[.int .i64 a0_0, .string a0_1, .slice A0_2 l0_2.length c0_2, .int .i64 a0_3]) (t := 24) ?hr ?_; (case hd => rfl); (case hg => rfl); (case hr => first | (go_simp; done) | (go_simp; rfl)); intro gb131 hg w2 hbox hb; have n0_ := Aside0.mk (below_step (by repeat (first | (with_reducible first | exact HB.out | apply below_alloc | apply pw_below_drewN | apply below_drew1) | exact HB.out)) hb); have n1_ := Aside0.mk (hbox); have n2_ := Aside0.mk ((by rw [hg]; exact (below_size (by repeat (first | (with_reducible first | exact HB.out | apply below_alloc | apply pw_below_drewN | apply below_drew1) | exact HB.out))) : w.heap.size ≤ gb131)); have n3_ := Aside0.mk ((by rw [hg]; exact (below_size (by repeat (first | (with_reducible first | exact HB.out | apply below_alloc | apply pw_below_drewN | apply below_drew1) | exact HB.out))) : w.heap.size ≤ gb131)); clear HB; have HB := n0_; have BK131 := n1_; have GW131 := n2_; have GE131 := n3_; clear n0_ n1_ n2_ n3_; clear hb hbox hg; have hcz3_0 : w2.cell? ⟨gb131, 0, none⟩ = some (.int .i64 a0_0) := (blk_cell BK131.out 0).trans rfl; have hcz3_1 : w2.cell? ⟨gb131, 1, none⟩ = some (.string a0_1) := (blk_cell BK131.out 1).trans rfl; have hcz3_2 : w2.cell? ⟨gb131, 2, none⟩ = some (.slice A0_2 l0_2.length c0_2) := (blk_cell BK131.out 2).trans rfl; have hcz3_3 : w2.cell? ⟨gb131, 3, none⟩ = some (.int .i64 a0_3) := (blk_cell BK131.out 3).trans rfl; have hfz3_0 := blk_frozen BK131.out 0; have hfz3_1 := blk_frozen BK131.out 1; have hfz3_2 := blk_frozen BK131.out 2; have hfz3_3 := blk_frozen BK131.out 3))
 go_loopg [3, 9] k (fun kq v3 v9 w' => ∃ (x3_1 : List ByteArray) (x9_1 : Int), v9 = .int .i64 x9_1 ∧ Aside0 (expr_String.l0 kq x3_1 l0_2 (l0_2.length : Int) x9_1 a0_0 a0_1 l0_2 a0_3 = some r) ∧ Aside0 (kq ≤ k) ∧ Aside0 (Kd.R Kd.string 9 w' w.heap.size (fun _ => True) v3 x3_1) ∧ Aside0 (w'.heap[gb131]? = some (.cells #[.int .i64 a0_0, .string a0_1, (.slice A0_2 l0_2.length c0_2), .int .i64 a0_3] 24 (0, 0))) ∧ Aside0 (Below w.heap.size w w'))
 case atStart => exact ⟨(([] : List ByteArray)), (0), (by first | rfl | (simp; done) | (simp [*]; done)), H', ⟨Nat.le_refl _⟩, ⟨by first | exact Kd.R_nil _ _ _ _ _ | exact Kd.N_nil _ _ _ _ _ | exact Kd.V_nil _ _ _ _ _ | exact Kd.Q_nil _ _ _ _ _ | exact Kd.S_nil _ _ _ _ _⟩, ⟨by (with_reducible repeat (first | refine blk_drewN ?_ _ | refine blk_drew ?_ | refine blk_alloc ?_ _)); exact BK131.out⟩, ⟨by repeat (first | (with_reducible first | exact HB.out | apply below_alloc | apply pw_below_drewN | apply below_drew1 | refine below_set ?_ GE131.out) | exact HB.out)⟩⟩
 case round =>
  clear H'
  try clear c1
  try clear p2
  try clear hcz3_0
  try clear hcz3_1
  try clear hcz3_2
  try clear hcz3_3
  try clear hfz3_0
  try clear hfz3_1
  try clear hfz3_2
  try clear hfz3_3
  obtain ⟨x3_1, x9_1, rfl, HA, HK1, HO_3, BK131, HB⟩ := hrel
  cases gk with
  | zero => exact absurd HA.out (by simp [expr_String.l0])
  | succ k1 =>
   have H := HA.out
   clear HA
   simp only [expr_String.l0] at H
   by_cases c4 : x9_1 < (l0_2.length : Int)
   ·rw [if_pos c4] at H
    have c4b0 : decide (x9_1 < (l0_2.length : Int)) = true := decide_eq_true c4
    clear c4
    by_cases c5 : 0 ≤ x9_1
    ·rw [if_pos c5] at H
     have c5b0 : decide (0 ≤ x9_1) = true := decide_eq_true c5
     clear c5
     by_cases c6 : x9_1 < (l0_2.length : Int)
     ·rw [if_pos c6] at H
      have c6b0 : decide (x9_1 < (l0_2.length : Int)) = true := decide_eq_true c6
      clear c6
      replace H := Option.bind_eq_some_iff.mp H
      obtain ⟨t134, A70, H⟩ := H
      replace H : (if x3_1.length < 8796093022208 then (expr_String.l0 k1 (x3_1 ++ [t134]) l0_2 (l0_2.length : Int) (wrap64 (x9_1 + 1)) a0_0 a0_1 l0_2 a0_3) else (none)) = some r := H
      have A7 := Aside0.mk A70
      clear A70
      by_cases c8 : x3_1.length < 8796093022208
      ·rw [if_pos c8] at H
       have LMc8 := Aside0.mk c8
       clear c8
       obtain ⟨y135, hy135⟩ : ∃ y_ : List ByteArray, y_ = (x3_1 ++ [t134]) := ⟨_, rfl⟩
       replace H : (expr_String.l0 k1 y135 l0_2 (l0_2.length : Int) (wrap64 (x9_1 + 1)) a0_0 a0_1 l0_2 a0_3) = some r := by first | (rw [hy135]; with_reducible exact H) | (have H2_ := (Option.bind_some _ _).symm.trans H; rw [hy135]; with_reducible exact H2_) | (have H2_ := (Option.bind_some _ _).symm.trans H; with_reducible exact H2_) | with_reducible exact H | (rw [hy135]; exact H) | exact H
       have Ny135 := Aside0.mk hy135
       clear hy135
       have H' := Aside0.mk H
       clear H
       have p132 : 0 ≤ (x9_1 : Int) := of_decide_eq_true (by first | (with_reducible assumption) | assumption)
       have q132 : x9_1 < (l0_2.length : Int) := of_decide_eq_true (by first | (with_reducible assumption) | assumption)
       obtain ⟨ad132, A132_2, c132_2, e132, hx132_0, hx132_1, hx132_2, hx132_3, hl132_2, hi132_2⟩ := at_T24 HR0_2.out x9_1 p132 q132
       cases e132
       replace hx132_0 := (HB.out.cell (World.block_lt_of_cell? w _ hx132_0)).trans hx132_0
       replace hx132_1 := (HB.out.cell (World.block_lt_of_cell? w _ hx132_1)).trans hx132_1
       replace hx132_2 := (HB.out.cell (World.block_lt_of_cell? w _ hx132_2)).trans hx132_2
       replace hx132_3 := (HB.out.cell (World.block_lt_of_cell? w _ hx132_3)).trans hx132_3
       have HR132_2 := Aside0.mk hi132_2
       have HC132_2 := Aside0.mk hl132_2
       clear hi132_2 hl132_2
       replace p132 := eq_true p132
       replace q132 := eq_true q132
       go_wp2_with (first | ((with_reducible refine gate_dst (N := 5) rfl ?_); refine box_event ?hg (N := 5) ?hd (cs := #[.int .i64 0, .string (⟨#[]⟩ : ByteArray), .slice none 0 0, .int .i64 0]) (t := 24) ?hr ?_; (case hd => rfl); (case hg => rfl); (case hr => first | (go_simp; done) | (go_simp; rfl)); intro gb133 hg w9 hbox hb; have n0_ := Aside0.mk (Kd.R_below (by (with_reducible repeat (first | apply Kd.R_alloc | apply Kd.R_drewN | apply Kd.R_drew)); exact HO_3.out) hb); have n1_ := Aside0.mk (blk_below (g := gb131) (o := .cells #[.int .i64 a0_0, .string a0_1, .slice (some ad132) l0_2.length c0_2, .int .i64 a0_3] 24 (0, 0)) (by (with_reducible repeat (first | refine blk_drewN ?_ _ | refine blk_drew ?_ | refine blk_alloc ?_ _)); exact BK131.out) hb); have n2_ := Aside0.mk (below_step (by repeat (first | (with_reducible first | exact HB.out | apply below_alloc | apply pw_below_drewN | apply below_drew1 | refine below_set ?_ GE131.out) | exact HB.out)) hb); have n3_ := Aside0.mk (hbox); have n4_ := Aside0.mk ((by rw [hg]; exact (below_size (by repeat (first | (with_reducible first | exact HB.out | apply below_alloc | apply pw_below_drewN | apply below_drew1 | refine below_set ?_ GE131.out) | exact HB.out))) : w.heap.size ≤ gb133)); have n5_ := Aside0.mk ((by rw [hg]; exact (below_size (by repeat (first | (with_reducible first | exact HB.out | apply below_alloc | apply pw_below_drewN | apply below_drew1 | refine below_set ?_ GE131.out) | exact HB.out))) : w.heap.size ≤ gb133)); have n6_ := Aside0.mk ((by rw [hg]; exact Nat.ne_of_lt (blk_lt (g := gb131) (o := .cells #[.int .i64 a0_0, .string a0_1, .slice (some ad132) l0_2.length c0_2, .int .i64 a0_3] 24 (0, 0)) (by (with_reducible repeat (first | refine blk_drewN ?_ _ | refine blk_drew ?_ | refine blk_alloc ?_ _)); exact BK131.out)) : gb131 ≠ gb133)); have n7_ := Aside0.mk ((by rw [hg]; exact Nat.ne_of_gt (blk_lt (g := gb131) (o := .cells #[.int .i64 a0_0, .string a0_1, .slice (some ad132) l0_2.length c0_2, .int .i64 a0_3] 24 (0, 0)) (by (with_reducible repeat (first | refine blk_drewN ?_ _ | refine blk_drew ?_ | refine blk_alloc ?_ _)); exact BK131.out)) : gb133 ≠ gb131)); clear HO_3; clear BK131; clear HB; have HO_3 := n0_; have BK131 := n1_; have HB := n2_; have BK133 := n3_; have GW133 := n4_; have GE133 := n5_; have NB131_133 := n6_; have NB133_131 := n7_; clear n0_ n1_ n2_ n3_ n4_ n5_ n6_ n7_; clear hb hbox hg; have hnb10 := NB133_131.out; have hnc10 := NB131_133.out; have hcz11_0 : w9.cell? ⟨gb133, 0, none⟩ = some (.int .i64 0) := (blk_cell BK133.out 0).trans rfl; have hcz11_1 : w9.cell? ⟨gb133, 1, none⟩ = some (.string (⟨#[]⟩ : ByteArray)) := (blk_cell BK133.out 1).trans rfl; have hcz11_2 : w9.cell? ⟨gb133, 2, none⟩ = some (.slice none 0 0) := (blk_cell BK133.out 2).trans rfl; have hcz11_3 : w9.cell? ⟨gb133, 3, none⟩ = some (.int .i64 0) := (blk_cell BK133.out 3).trans rfl; have hfz11_0 := blk_frozen BK133.out 0; have hfz11_1 := blk_frozen BK133.out 1; have hfz11_2 := blk_frozen BK133.out 2; have hfz11_3 := blk_frozen BK133.out 3) | ((with_reducible refine gate_callee (f := 16) rfl ?_); refine goesL_ (some 15) rfl rfl Tryd.func16 (by kernel_rfl) rfl #[.agg #[.int .i64 ((rd_T24 l0_2 x9_1).f0), .string ((rd_T24 l0_2 x9_1).f1), .slice A132_2 ((rd_T24 l0_2 x9_1).f2).length c132_2, .int .i64 ((rd_T24 l0_2 x9_1).f3)]] rfl (by (try simp only [List.map_toArray, List.map_cons, List.map_nil]); first | done | rfl | (simp only [List.length_drop, List.length_take]; rfl)) ?_; (with_reducible refine (ih k1 (by have := HK1.out; omega) ((rd_T24 l0_2 x9_1).f0) ((rd_T24 l0_2 x9_1).f1) _ _ ((rd_T24 l0_2 x9_1).f2) ((rd_T24 l0_2 x9_1).f3) t134 _ ?side1 ?side2 A7.out).mono ?_); (case side1 => exact Kd.C_below HR132_2.out (by repeat (first | (with_reducible first | exact HB.out | apply below_alloc | apply pw_below_drewN | apply below_drew1 | refine below_set ?_ GE131.out | refine below_set ?_ GE133.out) | exact HB.out))); (case side2 => exact HC132_2.out); rintro e w12 ⟨rfl, hb⟩; refine ⟨_, rfl, ?_⟩; have n0_ := Aside0.mk (Kd.R_below (by (with_reducible repeat (first | apply Kd.R_alloc | apply Kd.R_drewN | apply Kd.R_drew)); exact (Kd.R_mono (Kd.R_far (p := ⟨gb133, 3, none⟩) (Kd.R_far (p := ⟨gb133, 2, none⟩) (Kd.R_far (p := ⟨gb133, 1, none⟩) (Kd.R_far (p := ⟨gb133, 0, none⟩) (Kd.R_types HO_3.out BK133.out (by decide)) (fun _ hk => hk.2) (.int .i64 ((rd_T24 l0_2 x9_1).f0))) (fun _ hk => hk.2) (.string ((rd_T24 l0_2 x9_1).f1))) (fun _ hk => hk.2) (.slice A132_2 ((rd_T24 l0_2 x9_1).f2).length c132_2)) (fun _ hk => hk.2) (.int .i64 ((rd_T24 l0_2 x9_1).f3))) (fun _ h_ => h_.1))) hb); have n1_ := Aside0.mk (blk_below (g := gb131) (o := .cells #[.int .i64 a0_0, .string a0_1, .slice (some ad132) l0_2.length c0_2, .int .i64 a0_3] 24 (0, 0)) (by (with_reducible repeat (first | refine blk_drewN ?_ _ | refine blk_drew ?_ | refine blk_alloc ?_ _)); refine blk_far ?_ NB131_133.out _; (with_reducible repeat (first | refine blk_drewN ?_ _ | refine blk_drew ?_ | refine blk_alloc ?_ _)); refine blk_far ?_ NB131_133.out _; (with_reducible repeat (first | refine blk_drewN ?_ _ | refine blk_drew ?_ | refine blk_alloc ?_ _)); refine blk_far ?_ NB131_133.out _; (with_reducible repeat (first | refine blk_drewN ?_ _ | refine blk_drew ?_ | refine blk_alloc ?_ _)); refine blk_far ?_ NB131_133.out _; (with_reducible repeat (first | refine blk_drewN ?_ _ | refine blk_drew ?_ | refine blk_alloc ?_ _)); exact BK131.out) hb); have n2_ := Aside0.mk (blk_below (g := gb133) (o := .cells #[.int .i64 ((rd_T24 l0_2 x9_1).f0), .string ((rd_T24 l0_2 x9_1).f1), .slice A132_2 ((rd_T24 l0_2 x9_1).f2).length c132_2, .int .i64 ((rd_T24 l0_2 x9_1).f3)] 24 (0, 0)) (by (with_reducible repeat (first | refine blk_drewN ?_ _ | refine blk_drew ?_ | refine blk_alloc ?_ _)); refine blk_put (cs := #[.int .i64 ((rd_T24 l0_2 x9_1).f0), .string ((rd_T24 l0_2 x9_1).f1), .slice A132_2 ((rd_T24 l0_2 x9_1).f2).length c132_2, .int .i64 0]) ?_ 3 _ rfl; (with_reducible repeat (first | refine blk_drewN ?_ _ | refine blk_drew ?_ | refine blk_alloc ?_ _)); refine blk_put (cs := #[.int .i64 ((rd_T24 l0_2 x9_1).f0), .string ((rd_T24 l0_2 x9_1).f1), .slice none 0 0, .int .i64 0]) ?_ 2 _ rfl; (with_reducible repeat (first | refine blk_drewN ?_ _ | refine blk_drew ?_ | refine blk_alloc ?_ _)); refine blk_put (cs := #[.int .i64 ((rd_T24 l0_2 x9_1).f0), .string (⟨#[]⟩ : ByteArray), .slice none 0 0, .int .i64 0]) ?_ 1 _ rfl; (with_reducible repeat (first | refine blk_drewN ?_ _ | refine blk_drew ?_ | refine blk_alloc ?_ _)); refine blk_put (cs := #[.int .i64 0, .string (⟨#[]⟩ : ByteArray), .slice none 0 0, .int .i64 0]) ?_ 0 _ rfl; (with_reducible repeat (first | refine blk_drewN ?_ _ | refine blk_drew ?_ | refine blk_alloc ?_ _)); exact BK133.out) hb); have n3_ := Aside0.mk (below_step (by repeat (first | (with_reducible first | exact HB.out | apply below_alloc | apply pw_below_drewN | apply below_drew1 | refine below_set ?_ GE131.out | refine below_set ?_ GE133.out) | exact HB.out)) hb); clear HO_3; clear BK131; clear BK133; clear HB; have HO_3 := n0_; have BK131 := n1_; have BK133 := n2_; have HB := n3_; clear n0_ n1_ n2_ n3_; (try clear hb); (try clear hb2); (try clear hk); (try clear hi)) | ((with_reducible refine gate_builtin (b := .append) (xs := #[.tmp 13, .tmp 16]) rfl ?_); at_builtin; refine Kd.R_append Kd.string (w0 := w) w.heap.size rfl (.tmp 13) (.tmp 16) 66 9 (.string ⟨#[]⟩) 16 rfl Tryd.underlying66 info9 rfl (by decide) (by omega) u3 x3_1 t134 [.string t134] (fun _ => True) (fun _ => False) rfl rfl ?aP (fun _ hk => hk.elim) ?aF ?aO ?aB ?aS ?aL ?_; (case aP => exact rfl); (case aB => exact (by repeat (first | (with_reducible first | exact HB.out | apply below_alloc | apply pw_below_drewN | apply below_drew1 | refine below_set ?_ GE131.out | refine below_set ?_ GE133.out) | exact HB.out))); (case aF => exact (fun _ _ => trivial)); (case aO => exact (by (with_reducible repeat (first | apply Kd.R_alloc | apply Kd.R_drewN | apply Kd.R_drew)); exact HO_3.out)); (case aS => exact (below_size (by repeat (first | (with_reducible first | exact HB.out | apply below_alloc | apply pw_below_drewN | apply below_drew1 | refine below_set ?_ GE131.out | refine below_set ?_ GE133.out) | exact HB.out)))); (case aL => have := LMc8.out; omega); intro v136 w13 ho hb hg hat; rw [← Ny135.out] at ho; have n0_ := Aside0.mk (blk_grown (g := gb131) (o := .cells #[.int .i64 a0_0, .string a0_1, .slice (some ad132) l0_2.length c0_2, .int .i64 a0_3] 24 (0, 0)) (by (with_reducible repeat (first | refine blk_drewN ?_ _ | refine blk_drew ?_ | refine blk_alloc ?_ _)); exact BK131.out) hg (Kd.R_ne HO_3.out BK131.out (by decide))); have n1_ := Aside0.mk (blk_grown (g := gb133) (o := .cells #[.int .i64 ((rd_T24 l0_2 x9_1).f0), .string ((rd_T24 l0_2 x9_1).f1), .slice A132_2 ((rd_T24 l0_2 x9_1).f2).length c132_2, .int .i64 ((rd_T24 l0_2 x9_1).f3)] 24 (0, 0)) (by (with_reducible repeat (first | refine blk_drewN ?_ _ | refine blk_drew ?_ | refine blk_alloc ?_ _)); exact BK133.out) hg (Kd.R_ne HO_3.out BK133.out (by decide))); have n2_ := Aside0.mk (hb); have n3_ := Aside0.mk (ho); clear BK131; clear BK133; clear HB; clear HO_3; have BK131 := n0_; have BK133 := n1_; have HB := n2_; have HO137 := n3_; clear n0_ n1_ n2_ n3_; clear ho hb hg hat))
       go_roundg k1
       case measure => have := HK1.out; omega
       case rel => exact ⟨(y135), (wrap64 (x9_1 + 1)), (by first | rfl | (simp; done) | (simp [*]; done)), H', ⟨by have := HK1.out; omega⟩, ⟨by (with_reducible repeat (first | apply Kd.R_alloc | apply Kd.R_drewN | apply Kd.R_drew)); exact HO137.out⟩, ⟨by (with_reducible repeat (first | refine blk_drewN ?_ _ | refine blk_drew ?_ | refine blk_alloc ?_ _)); exact BK131.out⟩, ⟨by repeat (first | (with_reducible first | exact HB.out | apply below_alloc | apply pw_below_drewN | apply below_drew1 | refine below_set ?_ GE131.out | refine below_set ?_ GE133.out) | exact HB.out)⟩⟩
      ·rw [if_neg c8] at H
       exact absurd H (by simp)
     ·rw [if_neg c6] at H
      exact absurd H (by simp)
    ·rw [if_neg c5] at H
     exact absurd H (by simp)
   ·rw [if_neg c4] at H
    have c4b0 : decide (x9_1 < (l0_2.length : Int)) = false := decide_eq_false c4
    clear c4
    by_cases c14 : a0_0 = 3
    ·rw [if_pos c14] at H
     have c14b0 : (a0_0 == 3) = true := beq_iff_eq.mpr c14
     have c14b1 : (a0_0 != 3) = false := bne_eq_false_iff_eq.mpr c14
     clear c14
     replace H := Option.bind_eq_some_iff.mp H
     obtain ⟨t138, A150, H⟩ := H
     replace H : (if 1 + t138.size ≤ 9223372036854775807 then (if ((⟨#[39]⟩ : ByteArray) ++ t138).size + 1 ≤ 9223372036854775807 then (some (((⟨#[39]⟩ : ByteArray) ++ t138) ++ (⟨#[39]⟩ : ByteArray))) else (none)) else (none)) = some r := H
     have A15 := Aside0.mk A150
     clear A150
     by_cases c16 : 1 + t138.size ≤ 9223372036854775807
     ·rw [if_pos c16] at H
      have c16b0 := eq_true c16
      have c16b1 : decide (1 + t138.size ≤ 9223372036854775807) = true := decide_eq_true c16
      try have c16b2 : (9223372036854775807 < 1 + t138.size) = False := eq_false (Nat.not_lt.2 c16)
      by_cases c17 : ((⟨#[39]⟩ : ByteArray) ++ t138).size + 1 ≤ 9223372036854775807
      ·rw [if_pos c17] at H
       have c17h : ∀ W, (Op.stringOp .add ((⟨#[39]⟩ : ByteArray) ++ t138) (⟨#[39]⟩ : ByteArray)).run Tryd.prog W = .ok (.string (((⟨#[39]⟩ : ByteArray) ++ t138) ++ (⟨#[39]⟩ : ByteArray))) W := fun W => run_string_add_sum W _ _ c17
       obtain rfl := Option.some.inj H
       have hcz18_0 : wr.cell? ⟨gb131, 0, none⟩ = some (.int .i64 a0_0) := (blk_cell BK131.out 0).trans rfl
       have hcz18_1 : wr.cell? ⟨gb131, 1, none⟩ = some (.string a0_1) := (blk_cell BK131.out 1).trans rfl
       have hcz18_2 : wr.cell? ⟨gb131, 2, none⟩ = some (.slice A0_2 l0_2.length c0_2) := (blk_cell BK131.out 2).trans rfl
       have hcz18_3 : wr.cell? ⟨gb131, 3, none⟩ = some (.int .i64 a0_3) := (blk_cell BK131.out 3).trans rfl
       have hfz18_0 := blk_frozen BK131.out 0
       have hfz18_1 := blk_frozen BK131.out 1
       have hfz18_2 := blk_frozen BK131.out 2
       have hfz18_3 := blk_frozen BK131.out 3
       go_wp2_with (first | ((with_reducible refine gate_callee (f := 30) rfl ?_); refine goesL_ (some 25) rfl rfl Tryd.func30 (by kernel_rfl) rfl #[.string a0_1, .string (⟨#[39]⟩ : ByteArray), .string (⟨#[39, 39]⟩ : ByteArray)] rfl (by (try simp only [List.map_toArray, List.map_cons, List.map_nil]); first | done | rfl | (simp only [List.length_drop, List.length_take]; rfl)) ?_; (with_reducible refine (strings_ReplaceAll.calls a0_1 (⟨#[39]⟩ : ByteArray) (⟨#[39, 39]⟩ : ByteArray) t138 _ A15.out).mono ?_); rintro e w' ⟨rfl, ⟨nd, rfl⟩⟩; refine ⟨_, rfl, ?_⟩))
       go_ret
       exact ⟨by first | rfl | (simp [errW_none, errW_some] <;> rfl) | (simp [*, errW_none, errW_some] <;> rfl), by repeat (first | (with_reducible first | exact HB.out | apply below_alloc | apply pw_below_drewN | apply below_drew1 | refine below_set ?_ GE131.out) | exact HB.out)⟩
      ·rw [if_neg c17] at H
       exact absurd H (by simp)
     ·rw [if_neg c16] at H
      exact absurd H (by simp)
    ·rw [if_neg c14] at H
     have c14b0 : (a0_0 == 3) = false := beq_eq_false_iff_ne.mpr c14
     have c14b1 : (a0_0 != 3) = true := bne_iff_ne.mpr c14
     by_cases c19 : a0_0 = 5
     ·rw [if_pos c19] at H
      have c19b0 : (a0_0 == 5) = true := beq_iff_eq.mpr c19
      have c19b1 : (a0_0 != 5) = false := bne_eq_false_iff_eq.mpr c19
      clear c19
      by_cases c20 : a0_1.size + 1 ≤ 9223372036854775807
      ·rw [if_pos c20] at H
       have c20b0 := eq_true c20
       have c20b1 : decide (a0_1.size + 1 ≤ 9223372036854775807) = true := decide_eq_true c20
       try have c20b2 : (9223372036854775807 < a0_1.size + 1) = False := eq_false (Nat.not_lt.2 c20)
       by_cases c21 : 0 < (x3_1.length : Int)
       ·rw [if_pos c21] at H
        have c21b0 : decide (0 < (x3_1.length : Int)) = true := decide_eq_true c21
        have c21b1 : decide (0 < x3_1.length) = true := decide_eq_true (by omega)
        clear c21
        by_cases c22 : (a0_1 ++ (⟨#[32]⟩ : ByteArray)).size + (rdOf ByteArray.empty x3_1 0).size ≤ 9223372036854775807
        ·rw [if_pos c22] at H
         have c22h : ∀ W, (Op.stringOp .add (a0_1 ++ (⟨#[32]⟩ : ByteArray)) (rdOf ByteArray.empty x3_1 0)).run Tryd.prog W = .ok (.string ((a0_1 ++ (⟨#[32]⟩ : ByteArray)) ++ (rdOf ByteArray.empty x3_1 0))) W := fun W => run_string_add_sum W _ _ c22
         obtain rfl := Option.some.inj H
         have hcz23_0 : wr.cell? ⟨gb131, 0, none⟩ = some (.int .i64 a0_0) := (blk_cell BK131.out 0).trans rfl
         have hcz23_1 : wr.cell? ⟨gb131, 1, none⟩ = some (.string a0_1) := (blk_cell BK131.out 1).trans rfl
         have hcz23_2 : wr.cell? ⟨gb131, 2, none⟩ = some (.slice A0_2 l0_2.length c0_2) := (blk_cell BK131.out 2).trans rfl
         have hcz23_3 : wr.cell? ⟨gb131, 3, none⟩ = some (.int .i64 a0_3) := (blk_cell BK131.out 3).trans rfl
         have hfz23_0 := blk_frozen BK131.out 0
         have hfz23_1 := blk_frozen BK131.out 1
         have hfz23_2 := blk_frozen BK131.out 2
         have hfz23_3 := blk_frozen BK131.out 3
         try go_wp2
         have n0_ := Aside0.mk (Kd.R_drew HO_3.out)
         have n1_ := Aside0.mk (blk_drew BK131.out)
         have n2_ := Aside0.mk (below_drew1 HB.out)
         clear HO_3
         clear BK131
         clear HB
         have HO_3 := n0_
         have BK131 := n1_
         have HB := n2_
         clear n0_ n1_ n2_
         obtain ⟨Ao25, co25, eo25⟩ := Kd.R_slice HO_3.out
         (first | subst eo25 | (injection eo25 with f1_ f2_ f3_; have f4_ := f1_.symm; have f5_ := f3_.symm; clear f1_ f2_ f3_; subst f4_; subst f5_))
         have p139 : 0 ≤ (0 : Int) := (by omega)
         have q139 : 0 < (x3_1.length : Int) := of_decide_eq_true (by first | (with_reducible assumption) | assumption)
         obtain ⟨ad139, e139, hx139_0⟩ := Kd.at_string (Kd.R_reads' HO_3.out).2.2 0 p139 q139
         cases e139
         have qi139 : (0 < x3_1.length) = True := eq_true (by omega)
         (try rw [show ((0 : Int)).toNat = 0 from rfl] at hx139_0)
         (try rw [Addr.add_zero'] at hx139_0)
         replace p139 := eq_true p139
         replace q139 := eq_true q139
         refine start_ (n := 8) (S := fun w' => w'.cell? ⟨gb131, 0, none⟩ = some (.int .i64 a0_0) ∧ w'.cell? ⟨gb131, 1, none⟩ = some (.string a0_1) ∧ w'.cell? ⟨gb131, 2, none⟩ = some (.slice A0_2 l0_2.length c0_2) ∧ w'.cell? ⟨gb131, 3, none⟩ = some (.int .i64 a0_3) ∧ w'.cell? ad139 = some (.string (rdOf ByteArray.empty x3_1 0))) (ds := []) #[false, false, false, false, false, false, false, false] (by kernel_rfl) rfl rfl ⟨(blk_cell BK131.out 0).trans rfl, (blk_cell BK131.out 1).trans rfl, (blk_cell BK131.out 2).trans rfl, (blk_cell BK131.out 3).trans rfl, hx139_0⟩ (fun hHeld => ?_); refine with_tabW expr_String.tab11 expr_String.bits11 (fun HT_ HW_ => ?_)
         generalize wr.drew = w24 at HO_3 BK131 HB hx139_0 hHeld ⊢
         refine pure_ (i := 0) (N := some 30) (v := ?_) (a' := ?_) #[true, false, false, false, false, false, false, false] rfl rfl (any_of HT_.out (by kernel_rfl)) (fun _ _ _ h => h) (Or.inl ⟨by rfl, ?_⟩) ?_ ?_
         rotate_left
         ·intro w'
          go_simp
          with_reducible rfl
         rotate_left
         ·simp only [Act.put, List.setIfInBounds_toArray, List.set_cons_zero, List.set_cons_succ, i64_w, i32_w]
          rfl
         refine pure_ (i := 3) (N := some 33) (v := ?_) (a' := ?_) #[true, false, false, true, false, false, false, false] rfl rfl (any_of HT_.out (by kernel_rfl)) (fun _ _ _ h => h) (Or.inl ⟨by rfl, ?_⟩) ?_ ?_
         rotate_left
         ·intro w'
          go_simp
          with_reducible rfl
         rotate_left
         ·simp only [Act.put, List.setIfInBounds_toArray, List.set_cons_zero, List.set_cons_succ, i64_w, i32_w]
          rfl
         refine pure_ (i := 4) (N := some 34) (v := ?_) (a' := ?_) #[true, false, false, true, true, false, false, false] rfl rfl (any_of HT_.out (by kernel_rfl)) (fun _ _ _ h => h) (Or.inl ⟨by rfl, ?_⟩) ?_ ?_
         rotate_left
         ·intro w'
          go_simp
          with_reducible rfl
         rotate_left
         ·simp only [Act.put, List.setIfInBounds_toArray, List.set_cons_zero, List.set_cons_succ, i64_w, i32_w]
          rfl
         refine take_ (i := 1) (N := some 31) (v := ?_) (a' := ?_) #[true, true, false, true, true, false, false, false] rfl rfl (take_ofW HT_.out HW_.out (by kernel_rfl)) (fun _ _ _ h => h) (Or.inl ⟨by rfl, ?_⟩) hHeld ?_ ?_
         rotate_left
         ·rintro w' ⟨s0, s1, s2, s3, s4⟩
          go_simp
          with_reducible rfl
         rotate_left
         ·simp only [Act.put, List.setIfInBounds_toArray, List.set_cons_zero, List.set_cons_succ, i64_w, i32_w]
          rfl
         refine pure_ (i := 2) (N := some 32) (v := ?_) (a' := ?_) #[true, true, true, true, true, false, false, false] rfl rfl (any_of HT_.out (by kernel_rfl)) (fun _ _ _ h => h) (Or.inl ⟨by rfl, ?_⟩) ?_ ?_
         rotate_left
         ·intro w'
          go_simp
          with_reducible rfl
         rotate_left
         ·simp only [Act.put, List.setIfInBounds_toArray, List.set_cons_zero, List.set_cons_succ, i64_w, i32_w]
          rfl
         refine take_ (i := 5) (N := some 35) (v := ?_) (a' := ?_) #[true, true, true, true, true, true, false, false] rfl rfl (take_ofW HT_.out HW_.out (by kernel_rfl)) (fun _ _ _ h => h) (Or.inl ⟨by rfl, ?_⟩) hHeld ?_ ?_
         rotate_left
         ·rintro w' ⟨s0, s1, s2, s3, s4⟩
          go_simp
          with_reducible rfl
         rotate_left
         ·simp only [Act.put, List.setIfInBounds_toArray, List.set_cons_zero, List.set_cons_succ, i64_w, i32_w]
          rfl
         refine pure_ (i := 6) (N := some 36) (v := ?_) (a' := ?_) #[true, true, true, true, true, true, true, false] rfl rfl (any_of HT_.out (by kernel_rfl)) (fun _ _ _ h => h) (Or.inl ⟨by rfl, ?_⟩) ?_ ?_
         rotate_left
         ·intro w'
          go_simp
          with_reducible rfl
         rotate_left
         ·simp only [Act.put, List.setIfInBounds_toArray, List.set_cons_zero, List.set_cons_succ, i64_w, i32_w]
          rfl
         refine pure_ (i := 7) (N := some 2) (v := ?_) (a' := ?_) #[true, true, true, true, true, true, true, true] rfl rfl (any_of HT_.out (by kernel_rfl)) (fun _ _ _ h => h) (Or.inl ⟨by rfl, ?_⟩) ?_ ?_
         rotate_left
         ·intro w'
          go_simp
          with_reducible rfl
         rotate_left
         ·simp only [Act.put, List.setIfInBounds_toArray, List.set_cons_zero, List.set_cons_succ, i64_w, i32_w]
          rfl
         refine done_ (done_of HT_.out (by kernel_rfl)) ?_
         try go_wp2
         go_ret
         exact ⟨by first | rfl | (simp [errW_none, errW_some] <;> rfl) | (simp [*, errW_none, errW_some] <;> rfl), by repeat (first | (with_reducible first | exact HB.out | apply below_alloc | apply pw_below_drewN | apply below_drew1 | refine below_set ?_ GE131.out) | exact HB.out)⟩
        ·rw [if_neg c22] at H
         exact absurd H (by simp)
       ·rw [if_neg c21] at H
        exact absurd H (by simp)
      ·rw [if_neg c20] at H
       exact absurd H (by simp)
     ·rw [if_neg c19] at H
      have c19b0 : (a0_0 == 5) = false := beq_eq_false_iff_ne.mpr c19
      have c19b1 : (a0_0 != 5) = true := bne_iff_ne.mpr c19
      by_cases c26 : a0_0 = 6
      ·rw [if_pos c26] at H
       have c26b0 : (a0_0 == 6) = true := beq_iff_eq.mpr c26
       have c26b1 : (a0_0 != 6) = false := bne_eq_false_iff_eq.mpr c26
       clear c26
       by_cases c27 : 0 < (x3_1.length : Int)
       ·rw [if_pos c27] at H
        have c27b0 : decide (0 < (x3_1.length : Int)) = true := decide_eq_true c27
        have c27b1 : decide (0 < x3_1.length) = true := decide_eq_true (by omega)
        clear c27
        by_cases c28 : 3 + (rdOf ByteArray.empty x3_1 0).size ≤ 9223372036854775807
        ·rw [if_pos c28] at H
         have c28b0 := eq_true c28
         have c28b1 : decide (3 + (rdOf ByteArray.empty x3_1 0).size ≤ 9223372036854775807) = true := decide_eq_true c28
         try have c28b2 : (9223372036854775807 < 3 + (rdOf ByteArray.empty x3_1 0).size) = False := eq_false (Nat.not_lt.2 c28)
         by_cases c29 : ((⟨#[40, 45, 32]⟩ : ByteArray) ++ (rdOf ByteArray.empty x3_1 0)).size + 1 ≤ 9223372036854775807
         ·rw [if_pos c29] at H
          have c29h : ∀ W, (Op.stringOp .add ((⟨#[40, 45, 32]⟩ : ByteArray) ++ (rdOf ByteArray.empty x3_1 0)) (⟨#[41]⟩ : ByteArray)).run Tryd.prog W = .ok (.string (((⟨#[40, 45, 32]⟩ : ByteArray) ++ (rdOf ByteArray.empty x3_1 0)) ++ (⟨#[41]⟩ : ByteArray))) W := fun W => run_string_add_sum W _ _ c29
          obtain rfl := Option.some.inj H
          have hcz30_0 : wr.cell? ⟨gb131, 0, none⟩ = some (.int .i64 a0_0) := (blk_cell BK131.out 0).trans rfl
          have hcz30_1 : wr.cell? ⟨gb131, 1, none⟩ = some (.string a0_1) := (blk_cell BK131.out 1).trans rfl
          have hcz30_2 : wr.cell? ⟨gb131, 2, none⟩ = some (.slice A0_2 l0_2.length c0_2) := (blk_cell BK131.out 2).trans rfl
          have hcz30_3 : wr.cell? ⟨gb131, 3, none⟩ = some (.int .i64 a0_3) := (blk_cell BK131.out 3).trans rfl
          have hfz30_0 := blk_frozen BK131.out 0
          have hfz30_1 := blk_frozen BK131.out 1
          have hfz30_2 := blk_frozen BK131.out 2
          have hfz30_3 := blk_frozen BK131.out 3
          obtain ⟨Ao31, co31, eo31⟩ := Kd.R_slice HO_3.out
          subst eo31
          have p140 : 0 ≤ (0 : Int) := (by omega)
          have q140 : 0 < (x3_1.length : Int) := of_decide_eq_true (by first | (with_reducible assumption) | assumption)
          obtain ⟨ad140, e140, hx140_0⟩ := Kd.at_string (Kd.R_reads' HO_3.out).2.2 0 p140 q140
          cases e140
          have qi140 : (0 < x3_1.length) = True := eq_true (by omega)
          (try rw [show ((0 : Int)).toNat = 0 from rfl] at hx140_0)
          (try rw [Addr.add_zero'] at hx140_0)
          replace p140 := eq_true p140
          replace q140 := eq_true q140
          go_wp2
          go_ret
          exact ⟨by first | rfl | (simp [errW_none, errW_some] <;> rfl) | (simp [*, errW_none, errW_some] <;> rfl), by repeat (first | (with_reducible first | exact HB.out | apply below_alloc | apply pw_below_drewN | apply below_drew1 | refine below_set ?_ GE131.out) | exact HB.out)⟩
         ·rw [if_neg c29] at H
          exact absurd H (by simp)
        ·rw [if_neg c28] at H
         exact absurd H (by simp)
       ·rw [if_neg c27] at H
        exact absurd H (by simp)
      ·rw [if_neg c26] at H
       have c26b0 : (a0_0 == 6) = false := beq_eq_false_iff_ne.mpr c26
       have c26b1 : (a0_0 != 6) = true := bne_iff_ne.mpr c26
       by_cases c32 : a0_0 = 7
       ·rw [if_pos c32] at H
        have c32b0 : (a0_0 == 7) = true := beq_iff_eq.mpr c32
        have c32b1 : (a0_0 != 7) = false := bne_eq_false_iff_eq.mpr c32
        clear c32
        by_cases c33 : 0 < (x3_1.length : Int)
        ·rw [if_pos c33] at H
         have c33b0 : decide (0 < (x3_1.length : Int)) = true := decide_eq_true c33
         have c33b1 : decide (0 < x3_1.length) = true := decide_eq_true (by omega)
         clear c33
         by_cases c34 : 5 + (rdOf ByteArray.empty x3_1 0).size ≤ 9223372036854775807
         ·rw [if_pos c34] at H
          have c34b0 := eq_true c34
          have c34b1 : decide (5 + (rdOf ByteArray.empty x3_1 0).size ≤ 9223372036854775807) = true := decide_eq_true c34
          try have c34b2 : (9223372036854775807 < 5 + (rdOf ByteArray.empty x3_1 0).size) = False := eq_false (Nat.not_lt.2 c34)
          by_cases c35 : ((⟨#[40, 110, 111, 116, 32]⟩ : ByteArray) ++ (rdOf ByteArray.empty x3_1 0)).size + 1 ≤ 9223372036854775807
          ·rw [if_pos c35] at H
           have c35h : ∀ W, (Op.stringOp .add ((⟨#[40, 110, 111, 116, 32]⟩ : ByteArray) ++ (rdOf ByteArray.empty x3_1 0)) (⟨#[41]⟩ : ByteArray)).run Tryd.prog W = .ok (.string (((⟨#[40, 110, 111, 116, 32]⟩ : ByteArray) ++ (rdOf ByteArray.empty x3_1 0)) ++ (⟨#[41]⟩ : ByteArray))) W := fun W => run_string_add_sum W _ _ c35
           obtain rfl := Option.some.inj H
           have hcz36_0 : wr.cell? ⟨gb131, 0, none⟩ = some (.int .i64 a0_0) := (blk_cell BK131.out 0).trans rfl
           have hcz36_1 : wr.cell? ⟨gb131, 1, none⟩ = some (.string a0_1) := (blk_cell BK131.out 1).trans rfl
           have hcz36_2 : wr.cell? ⟨gb131, 2, none⟩ = some (.slice A0_2 l0_2.length c0_2) := (blk_cell BK131.out 2).trans rfl
           have hcz36_3 : wr.cell? ⟨gb131, 3, none⟩ = some (.int .i64 a0_3) := (blk_cell BK131.out 3).trans rfl
           have hfz36_0 := blk_frozen BK131.out 0
           have hfz36_1 := blk_frozen BK131.out 1
           have hfz36_2 := blk_frozen BK131.out 2
           have hfz36_3 := blk_frozen BK131.out 3
           obtain ⟨Ao37, co37, eo37⟩ := Kd.R_slice HO_3.out
           subst eo37
           have p141 : 0 ≤ (0 : Int) := (by omega)
           have q141 : 0 < (x3_1.length : Int) := of_decide_eq_true (by first | (with_reducible assumption) | assumption)
           obtain ⟨ad141, e141, hx141_0⟩ := Kd.at_string (Kd.R_reads' HO_3.out).2.2 0 p141 q141
           cases e141
           have qi141 : (0 < x3_1.length) = True := eq_true (by omega)
           (try rw [show ((0 : Int)).toNat = 0 from rfl] at hx141_0)
           (try rw [Addr.add_zero'] at hx141_0)
           replace p141 := eq_true p141
           replace q141 := eq_true q141
           go_wp2
           go_ret
           exact ⟨by first | rfl | (simp [errW_none, errW_some] <;> rfl) | (simp [*, errW_none, errW_some] <;> rfl), by repeat (first | (with_reducible first | exact HB.out | apply below_alloc | apply pw_below_drewN | apply below_drew1 | refine below_set ?_ GE131.out) | exact HB.out)⟩
          ·rw [if_neg c35] at H
           exact absurd H (by simp)
         ·rw [if_neg c34] at H
          exact absurd H (by simp)
        ·rw [if_neg c33] at H
         exact absurd H (by simp)
       ·rw [if_neg c32] at H
        have c32b0 : (a0_0 == 7) = false := beq_eq_false_iff_ne.mpr c32
        have c32b1 : (a0_0 != 7) = true := bne_iff_ne.mpr c32
        by_cases c38 : a0_0 = 8
        ·rw [if_pos c38] at H
         have c38b0 : (a0_0 == 8) = true := beq_iff_eq.mpr c38
         have c38b1 : (a0_0 != 8) = false := bne_eq_false_iff_eq.mpr c38
         clear c38
         by_cases c39 : 1 + a0_1.size ≤ 9223372036854775807
         ·rw [if_pos c39] at H
          have c39b0 := eq_true c39
          have c39b1 : decide (1 + a0_1.size ≤ 9223372036854775807) = true := decide_eq_true c39
          try have c39b2 : (9223372036854775807 < 1 + a0_1.size) = False := eq_false (Nat.not_lt.2 c39)
          by_cases c40 : ((⟨#[32]⟩ : ByteArray) ++ a0_1).size + 1 ≤ 9223372036854775807
          ·rw [if_pos c40] at H
           have c40h : ∀ W, (Op.stringOp .add ((⟨#[32]⟩ : ByteArray) ++ a0_1) (⟨#[32]⟩ : ByteArray)).run Tryd.prog W = .ok (.string (((⟨#[32]⟩ : ByteArray) ++ a0_1) ++ (⟨#[32]⟩ : ByteArray))) W := fun W => run_string_add_sum W _ _ c40
           replace H := Option.bind_eq_some_iff.mp H
           obtain ⟨t142, A410, H⟩ := H
           replace H : (if 1 + t142.size ≤ 9223372036854775807 then (if ((⟨#[40]⟩ : ByteArray) ++ t142).size + 1 ≤ 9223372036854775807 then (some (((⟨#[40]⟩ : ByteArray) ++ t142) ++ (⟨#[41]⟩ : ByteArray))) else (none)) else (none)) = some r := H
           have A41 := Aside0.mk A410
           clear A410
           by_cases c42 : 1 + t142.size ≤ 9223372036854775807
           ·rw [if_pos c42] at H
            have c42b0 := eq_true c42
            have c42b1 : decide (1 + t142.size ≤ 9223372036854775807) = true := decide_eq_true c42
            try have c42b2 : (9223372036854775807 < 1 + t142.size) = False := eq_false (Nat.not_lt.2 c42)
            by_cases c43 : ((⟨#[40]⟩ : ByteArray) ++ t142).size + 1 ≤ 9223372036854775807
            ·rw [if_pos c43] at H
             have c43h : ∀ W, (Op.stringOp .add ((⟨#[40]⟩ : ByteArray) ++ t142) (⟨#[41]⟩ : ByteArray)).run Tryd.prog W = .ok (.string (((⟨#[40]⟩ : ByteArray) ++ t142) ++ (⟨#[41]⟩ : ByteArray))) W := fun W => run_string_add_sum W _ _ c43
             obtain rfl := Option.some.inj H
             have hcz44_0 : wr.cell? ⟨gb131, 0, none⟩ = some (.int .i64 a0_0) := (blk_cell BK131.out 0).trans rfl
             have hcz44_1 : wr.cell? ⟨gb131, 1, none⟩ = some (.string a0_1) := (blk_cell BK131.out 1).trans rfl
             have hcz44_2 : wr.cell? ⟨gb131, 2, none⟩ = some (.slice A0_2 l0_2.length c0_2) := (blk_cell BK131.out 2).trans rfl
             have hcz44_3 : wr.cell? ⟨gb131, 3, none⟩ = some (.int .i64 a0_3) := (blk_cell BK131.out 3).trans rfl
             have hfz44_0 := blk_frozen BK131.out 0
             have hfz44_1 := blk_frozen BK131.out 1
             have hfz44_2 := blk_frozen BK131.out 2
             have hfz44_3 := blk_frozen BK131.out 3
             obtain ⟨Ao45, co45, eo45⟩ := Kd.R_slice HO_3.out
             subst eo45
             go_wp2_with (first | ((with_reducible refine gate_callee (f := 31) rfl ?_); refine goesL_ (some 58) rfl rfl Tryd.func31 (by kernel_rfl) rfl #[.slice Ao45 x3_1.length co45, .string (((⟨#[32]⟩ : ByteArray) ++ a0_1) ++ (⟨#[32]⟩ : ByteArray))] rfl (by (try simp only [List.map_toArray, List.map_cons, List.map_nil]); first | done | rfl | (simp only [List.length_drop, List.length_take]; rfl)) ?_; (with_reducible refine (strings_Join.calls _ _ x3_1 (((⟨#[32]⟩ : ByteArray) ++ a0_1) ++ (⟨#[32]⟩ : ByteArray)) t142 _ ?side1 ?side2 A41.out).mono ?_); (case side1 => repeat (first | exact (Kd.R_reads' HO_3.out).2.2 | (with_reducible refine Kd.C_alloc ?_ _) | (with_reducible refine Kd.C_drewN ?_ _) | (with_reducible refine Kd.C_drew ?_))); (case side2 => exact (Kd.R_reads' HO_3.out).2.1); rintro e w46 ⟨rfl, hb⟩; refine ⟨_, rfl, ?_⟩; have n0_ := Aside0.mk (Kd.R_below (by (with_reducible repeat (first | apply Kd.R_alloc | apply Kd.R_drewN | apply Kd.R_drew)); exact HO_3.out) hb); have n1_ := Aside0.mk (blk_below (g := gb131) (o := .cells #[.int .i64 a0_0, .string a0_1, .slice A0_2 l0_2.length c0_2, .int .i64 a0_3] 24 (0, 0)) (by (with_reducible repeat (first | refine blk_drewN ?_ _ | refine blk_drew ?_ | refine blk_alloc ?_ _)); exact BK131.out) hb); have n2_ := Aside0.mk (below_step (by repeat (first | (with_reducible first | exact HB.out | apply below_alloc | apply pw_below_drewN | apply below_drew1 | refine below_set ?_ GE131.out) | exact HB.out)) hb); clear HO_3; clear BK131; clear HB; have HO_3 := n0_; have BK131 := n1_; have HB := n2_; clear n0_ n1_ n2_; (try clear hb); (try clear hb2); (try clear hk); (try clear hi)))
             go_ret
             exact ⟨by first | rfl | (simp [errW_none, errW_some] <;> rfl) | (simp [*, errW_none, errW_some] <;> rfl), by repeat (first | (with_reducible first | exact HB.out | apply below_alloc | apply pw_below_drewN | apply below_drew1 | refine below_set ?_ GE131.out) | exact HB.out)⟩
            ·rw [if_neg c43] at H
             exact absurd H (by simp)
           ·rw [if_neg c42] at H
            exact absurd H (by simp)
          ·rw [if_neg c40] at H
           exact absurd H (by simp)
         ·rw [if_neg c39] at H
          exact absurd H (by simp)
        ·rw [if_neg c38] at H
         have c38b0 : (a0_0 == 8) = false := beq_eq_false_iff_ne.mpr c38
         have c38b1 : (a0_0 != 8) = true := bne_iff_ne.mpr c38
         by_cases c47 : a0_0 = 9
         ·rw [if_pos c47] at H
          have c47b0 : (a0_0 == 9) = true := beq_iff_eq.mpr c47
          have c47b1 : (a0_0 != 9) = false := bne_eq_false_iff_eq.mpr c47
          clear c47
          by_cases c48 : a0_1.size + 1 ≤ 9223372036854775807
          ·rw [if_pos c48] at H
           have c48b0 := eq_true c48
           have c48b1 : decide (a0_1.size + 1 ≤ 9223372036854775807) = true := decide_eq_true c48
           try have c48b2 : (9223372036854775807 < a0_1.size + 1) = False := eq_false (Nat.not_lt.2 c48)
           replace H := Option.bind_eq_some_iff.mp H
           obtain ⟨t143, A490, H⟩ := H
           replace H : (if (a0_1 ++ (⟨#[40]⟩ : ByteArray)).size + t143.size ≤ 9223372036854775807 then (if ((a0_1 ++ (⟨#[40]⟩ : ByteArray)) ++ t143).size + 1 ≤ 9223372036854775807 then (some (((a0_1 ++ (⟨#[40]⟩ : ByteArray)) ++ t143) ++ (⟨#[41]⟩ : ByteArray))) else (none)) else (none)) = some r := H
           have A49 := Aside0.mk A490
           clear A490
           by_cases c50 : (a0_1 ++ (⟨#[40]⟩ : ByteArray)).size + t143.size ≤ 9223372036854775807
           ·rw [if_pos c50] at H
            have c50h : ∀ W, (Op.stringOp .add (a0_1 ++ (⟨#[40]⟩ : ByteArray)) t143).run Tryd.prog W = .ok (.string ((a0_1 ++ (⟨#[40]⟩ : ByteArray)) ++ t143)) W := fun W => run_string_add_sum W _ _ c50
            by_cases c51 : ((a0_1 ++ (⟨#[40]⟩ : ByteArray)) ++ t143).size + 1 ≤ 9223372036854775807
            ·rw [if_pos c51] at H
             have c51h : ∀ W, (Op.stringOp .add ((a0_1 ++ (⟨#[40]⟩ : ByteArray)) ++ t143) (⟨#[41]⟩ : ByteArray)).run Tryd.prog W = .ok (.string (((a0_1 ++ (⟨#[40]⟩ : ByteArray)) ++ t143) ++ (⟨#[41]⟩ : ByteArray))) W := fun W => run_string_add_sum W _ _ c51
             obtain rfl := Option.some.inj H
             have hcz52_0 : wr.cell? ⟨gb131, 0, none⟩ = some (.int .i64 a0_0) := (blk_cell BK131.out 0).trans rfl
             have hcz52_1 : wr.cell? ⟨gb131, 1, none⟩ = some (.string a0_1) := (blk_cell BK131.out 1).trans rfl
             have hcz52_2 : wr.cell? ⟨gb131, 2, none⟩ = some (.slice A0_2 l0_2.length c0_2) := (blk_cell BK131.out 2).trans rfl
             have hcz52_3 : wr.cell? ⟨gb131, 3, none⟩ = some (.int .i64 a0_3) := (blk_cell BK131.out 3).trans rfl
             have hfz52_0 := blk_frozen BK131.out 0
             have hfz52_1 := blk_frozen BK131.out 1
             have hfz52_2 := blk_frozen BK131.out 2
             have hfz52_3 := blk_frozen BK131.out 3
             try go_wp2
             have n0_ := Aside0.mk (Kd.R_drew HO_3.out)
             have n1_ := Aside0.mk (blk_drew BK131.out)
             have n2_ := Aside0.mk (below_drew1 HB.out)
             clear HO_3
             clear BK131
             clear HB
             have HO_3 := n0_
             have BK131 := n1_
             have HB := n2_
             clear n0_ n1_ n2_
             obtain ⟨Ao54, co54, eo54⟩ := Kd.R_slice HO_3.out
             (first | subst eo54 | (injection eo54 with f1_ f2_ f3_; have f4_ := f1_.symm; have f5_ := f3_.symm; clear f1_ f2_ f3_; subst f4_; subst f5_))
             refine start_ (n := 8) (S := fun w' => w'.cell? ⟨gb131, 0, none⟩ = some (.int .i64 a0_0) ∧ w'.cell? ⟨gb131, 1, none⟩ = some (.string a0_1) ∧ w'.cell? ⟨gb131, 2, none⟩ = some (.slice A0_2 l0_2.length c0_2) ∧ w'.cell? ⟨gb131, 3, none⟩ = some (.int .i64 a0_3)) (ds := []) #[false, false, false, false, false, false, false, false] (by kernel_rfl) rfl rfl ⟨(blk_cell BK131.out 0).trans rfl, (blk_cell BK131.out 1).trans rfl, (blk_cell BK131.out 2).trans rfl, (blk_cell BK131.out 3).trans rfl⟩ (fun hHeld => ?_); refine with_tabW expr_String.tab19 expr_String.bits19 (fun HT_ HW_ => ?_)
             generalize wr.drew = w53 at HO_3 BK131 HB hHeld ⊢
             refine pure_ (i := 0) (N := some 63) (v := ?_) (a' := ?_) #[true, false, false, false, false, false, false, false] rfl rfl (any_of HT_.out (by kernel_rfl)) (fun _ _ _ h => h) (Or.inl ⟨by rfl, ?_⟩) ?_ ?_
             rotate_left
             ·intro w'
              go_simp
              with_reducible rfl
             rotate_left
             ·simp only [Act.put, List.setIfInBounds_toArray, List.set_cons_zero, List.set_cons_succ, i64_w, i32_w]
              rfl
             refine pure_ (i := 3) (N := some 66) (v := ?_) (a' := ?_) #[true, false, false, true, false, false, false, false] rfl rfl (any_of HT_.out (by kernel_rfl)) (fun _ _ _ h => h) (Or.inl ⟨by rfl, ?_⟩) ?_ ?_
             rotate_left
             ·intro w'
              go_simp
              with_reducible rfl
             rotate_left
             ·simp only [Act.put, List.setIfInBounds_toArray, List.set_cons_zero, List.set_cons_succ, i64_w, i32_w]
              rfl
             refine take_ (i := 1) (N := some 64) (v := ?_) (a' := ?_) #[true, true, false, true, false, false, false, false] rfl rfl (take_ofW HT_.out HW_.out (by kernel_rfl)) (fun _ _ _ h => h) (Or.inl ⟨by rfl, ?_⟩) hHeld ?_ ?_
             rotate_left
             ·rintro w' ⟨s0, s1, s2, s3⟩
              go_simp
              with_reducible rfl
             rotate_left
             ·simp only [Act.put, List.setIfInBounds_toArray, List.set_cons_zero, List.set_cons_succ, i64_w, i32_w]
              rfl
             refine pure_ (i := 2) (N := some 65) (v := ?_) (a' := ?_) #[true, true, true, true, false, false, false, false] rfl rfl (any_of HT_.out (by kernel_rfl)) (fun _ _ _ h => h) (Or.inl ⟨by rfl, ?_⟩) ?_ ?_
             rotate_left
             ·intro w'
              go_simp
              with_reducible rfl
             rotate_left
             ·simp only [Act.put, List.setIfInBounds_toArray, List.set_cons_zero, List.set_cons_succ, i64_w, i32_w]
              rfl
             refine one_ (i := 4) (N := some 67) #[true, true, true, true, true, false, false, false] rfl rfl (one_of HT_.out (by kernel_rfl)) (by decide) (fun K hK => ?_)
             refine goes_ Tryd.func31 (by kernel_rfl) rfl #[.slice Ao54 x3_1.length co54, .string (⟨#[44, 32]⟩ : ByteArray)] (by rfl) rfl rfl (by (try simp only [List.map_toArray, List.map_cons, List.map_nil]); first | done | rfl | (simp only [List.length_drop, List.length_take]; rfl)) ?_
             with_reducible refine (strings_Join.calls _ _ x3_1 (⟨#[44, 32]⟩ : ByteArray) t143 _ ?side1 ?side2 A49.out).mono ?_
             (case side1 => repeat (first | exact (Kd.R_reads' HO_3.out).2.2 | (with_reducible refine Kd.C_alloc ?_ _) | (with_reducible refine Kd.C_drewN ?_ _) | (with_reducible refine Kd.C_drew ?_)))
             (case side2 => exact (Kd.R_reads' HO_3.out).2.1)
             rintro e w55 ⟨rfl, hb⟩
             refine ⟨_, rfl, ?_⟩
             have n0_ := Aside0.mk (Kd.R_below (by (with_reducible repeat (first | apply Kd.R_alloc | apply Kd.R_drewN | apply Kd.R_drew)); exact HO_3.out) hb)
             have n1_ := Aside0.mk (blk_below (g := gb131) (o := .cells #[.int .i64 a0_0, .string a0_1, .slice A0_2 l0_2.length c0_2, .int .i64 a0_3] 24 (0, 0)) (by (with_reducible repeat (first | refine blk_drewN ?_ _ | refine blk_drew ?_ | refine blk_alloc ?_ _)); exact BK131.out) hb)
             have n2_ := Aside0.mk (below_step (by repeat (first | (with_reducible first | exact HB.out | apply below_alloc | apply pw_below_drewN | apply below_drew1 | refine below_set ?_ GE131.out) | exact HB.out)) hb)
             clear HO_3
             clear BK131
             clear HB
             have HO_3 := n0_
             have BK131 := n1_
             have HB := n2_
             clear n0_ n1_ n2_
             (try clear hb)
             (try clear hb2)
             (try clear hk)
             (try clear hi)
             refine hK.out _ _ ⟨(blk_cell BK131.out 0).trans rfl, (blk_cell BK131.out 1).trans rfl, (blk_cell BK131.out 2).trans rfl, (blk_cell BK131.out 3).trans rfl⟩ (fun hHeld => ?_)
             clear hK K
             refine norm_ (a' := ?_) ?_ ?_
             rotate_left
             ·show Act.put _ (some 67) _ = _
              simp only [Act.put, List.setIfInBounds_toArray, List.set_cons_zero, List.set_cons_succ, i64_w, i32_w]
              rfl
             refine pure_ (i := 5) (N := some 68) (v := ?_) (a' := ?_) #[true, true, true, true, true, true, false, false] rfl rfl (any_of HT_.out (by kernel_rfl)) (fun _ _ _ h => h) (Or.inl ⟨by rfl, ?_⟩) ?_ ?_
             rotate_left
             ·intro w'
              go_simp
              with_reducible rfl
             rotate_left
             ·simp only [Act.put, List.setIfInBounds_toArray, List.set_cons_zero, List.set_cons_succ, i64_w, i32_w]
              rfl
             refine pure_ (i := 6) (N := some 69) (v := ?_) (a' := ?_) #[true, true, true, true, true, true, true, false] rfl rfl (any_of HT_.out (by kernel_rfl)) (fun _ _ _ h => h) (Or.inl ⟨by rfl, ?_⟩) ?_ ?_
             rotate_left
             ·intro w'
              go_simp
              with_reducible rfl
             rotate_left
             ·simp only [Act.put, List.setIfInBounds_toArray, List.set_cons_zero, List.set_cons_succ, i64_w, i32_w]
              rfl
             refine pure_ (i := 7) (N := some 2) (v := ?_) (a' := ?_) #[true, true, true, true, true, true, true, true] rfl rfl (any_of HT_.out (by kernel_rfl)) (fun _ _ _ h => h) (Or.inl ⟨by rfl, ?_⟩) ?_ ?_
             rotate_left
             ·intro w'
              go_simp
              with_reducible rfl
             rotate_left
             ·simp only [Act.put, List.setIfInBounds_toArray, List.set_cons_zero, List.set_cons_succ, i64_w, i32_w]
              rfl
             refine done_ (done_of HT_.out (by kernel_rfl)) ?_
             try go_wp2
             go_ret
             exact ⟨by first | rfl | (simp [errW_none, errW_some] <;> rfl) | (simp [*, errW_none, errW_some] <;> rfl), by repeat (first | (with_reducible first | exact HB.out | apply below_alloc | apply pw_below_drewN | apply below_drew1 | refine below_set ?_ GE131.out) | exact HB.out)⟩
            ·rw [if_neg c51] at H
             exact absurd H (by simp)
           ·rw [if_neg c50] at H
            exact absurd H (by simp)
          ·rw [if_neg c48] at H
           exact absurd H (by simp)
         ·rw [if_neg c47] at H
          have c47b0 : (a0_0 == 9) = false := beq_eq_false_iff_ne.mpr c47
          have c47b1 : (a0_0 != 9) = true := bne_iff_ne.mpr c47
          by_cases c56 : a0_0 = 10
          ·rw [if_pos c56] at H
           have c56b0 : (a0_0 == 10) = true := beq_iff_eq.mpr c56
           have c56b1 : (a0_0 != 10) = false := bne_eq_false_iff_eq.mpr c56
           clear c56
           by_cases c57 : 0 < (x3_1.length : Int)
           ·rw [if_pos c57] at H
            have c57b0 : decide (0 < (x3_1.length : Int)) = true := decide_eq_true c57
            have c57b1 : decide (0 < x3_1.length) = true := decide_eq_true (by omega)
            clear c57
            by_cases c58 : 1 + (rdOf ByteArray.empty x3_1 0).size ≤ 9223372036854775807
            ·rw [if_pos c58] at H
             have c58b0 := eq_true c58
             have c58b1 : decide (1 + (rdOf ByteArray.empty x3_1 0).size ≤ 9223372036854775807) = true := decide_eq_true c58
             try have c58b2 : (9223372036854775807 < 1 + (rdOf ByteArray.empty x3_1 0).size) = False := eq_false (Nat.not_lt.2 c58)
             by_cases c59 : ((⟨#[40]⟩ : ByteArray) ++ (rdOf ByteArray.empty x3_1 0)).size + 2 ≤ 9223372036854775807
             ·rw [if_pos c59] at H
              have c59h : ∀ W, (Op.stringOp .add ((⟨#[40]⟩ : ByteArray) ++ (rdOf ByteArray.empty x3_1 0)) (⟨#[58, 58]⟩ : ByteArray)).run Tryd.prog W = .ok (.string (((⟨#[40]⟩ : ByteArray) ++ (rdOf ByteArray.empty x3_1 0)) ++ (⟨#[58, 58]⟩ : ByteArray))) W := fun W => run_string_add_sum W _ _ c59
              by_cases c60 : (((⟨#[40]⟩ : ByteArray) ++ (rdOf ByteArray.empty x3_1 0)) ++ (⟨#[58, 58]⟩ : ByteArray)).size + a0_1.size ≤ 9223372036854775807
              ·rw [if_pos c60] at H
               have c60h : ∀ W, (Op.stringOp .add (((⟨#[40]⟩ : ByteArray) ++ (rdOf ByteArray.empty x3_1 0)) ++ (⟨#[58, 58]⟩ : ByteArray)) a0_1).run Tryd.prog W = .ok (.string ((((⟨#[40]⟩ : ByteArray) ++ (rdOf ByteArray.empty x3_1 0)) ++ (⟨#[58, 58]⟩ : ByteArray)) ++ a0_1)) W := fun W => run_string_add_sum W _ _ c60
               by_cases c61 : ((((⟨#[40]⟩ : ByteArray) ++ (rdOf ByteArray.empty x3_1 0)) ++ (⟨#[58, 58]⟩ : ByteArray)) ++ a0_1).size + 1 ≤ 9223372036854775807
               ·rw [if_pos c61] at H
                have c61h : ∀ W, (Op.stringOp .add ((((⟨#[40]⟩ : ByteArray) ++ (rdOf ByteArray.empty x3_1 0)) ++ (⟨#[58, 58]⟩ : ByteArray)) ++ a0_1) (⟨#[41]⟩ : ByteArray)).run Tryd.prog W = .ok (.string (((((⟨#[40]⟩ : ByteArray) ++ (rdOf ByteArray.empty x3_1 0)) ++ (⟨#[58, 58]⟩ : ByteArray)) ++ a0_1) ++ (⟨#[41]⟩ : ByteArray))) W := fun W => run_string_add_sum W _ _ c61
                obtain rfl := Option.some.inj H
                have hcz62_0 : wr.cell? ⟨gb131, 0, none⟩ = some (.int .i64 a0_0) := (blk_cell BK131.out 0).trans rfl
                have hcz62_1 : wr.cell? ⟨gb131, 1, none⟩ = some (.string a0_1) := (blk_cell BK131.out 1).trans rfl
                have hcz62_2 : wr.cell? ⟨gb131, 2, none⟩ = some (.slice A0_2 l0_2.length c0_2) := (blk_cell BK131.out 2).trans rfl
                have hcz62_3 : wr.cell? ⟨gb131, 3, none⟩ = some (.int .i64 a0_3) := (blk_cell BK131.out 3).trans rfl
                have hfz62_0 := blk_frozen BK131.out 0
                have hfz62_1 := blk_frozen BK131.out 1
                have hfz62_2 := blk_frozen BK131.out 2
                have hfz62_3 := blk_frozen BK131.out 3
                try go_wp2
                have n0_ := Aside0.mk (Kd.R_drew HO_3.out)
                have n1_ := Aside0.mk (blk_drew BK131.out)
                have n2_ := Aside0.mk (below_drew1 HB.out)
                clear HO_3
                clear BK131
                clear HB
                have HO_3 := n0_
                have BK131 := n1_
                have HB := n2_
                clear n0_ n1_ n2_
                obtain ⟨Ao64, co64, eo64⟩ := Kd.R_slice HO_3.out
                (first | subst eo64 | (injection eo64 with f1_ f2_ f3_; have f4_ := f1_.symm; have f5_ := f3_.symm; clear f1_ f2_ f3_; subst f4_; subst f5_))
                have p144 : 0 ≤ (0 : Int) := (by omega)
                have q144 : 0 < (x3_1.length : Int) := of_decide_eq_true (by first | (with_reducible assumption) | assumption)
                obtain ⟨ad144, e144, hx144_0⟩ := Kd.at_string (Kd.R_reads' HO_3.out).2.2 0 p144 q144
                cases e144
                have qi144 : (0 < x3_1.length) = True := eq_true (by omega)
                (try rw [show ((0 : Int)).toNat = 0 from rfl] at hx144_0)
                (try rw [Addr.add_zero'] at hx144_0)
                replace p144 := eq_true p144
                replace q144 := eq_true q144
                refine start_ (n := 10) (S := fun w' => w'.cell? ⟨gb131, 0, none⟩ = some (.int .i64 a0_0) ∧ w'.cell? ⟨gb131, 1, none⟩ = some (.string a0_1) ∧ w'.cell? ⟨gb131, 2, none⟩ = some (.slice A0_2 l0_2.length c0_2) ∧ w'.cell? ⟨gb131, 3, none⟩ = some (.int .i64 a0_3) ∧ w'.cell? ad144 = some (.string (rdOf ByteArray.empty x3_1 0))) (ds := []) #[false, false, false, false, false, false, false, false, false, false] (by kernel_rfl) rfl rfl ⟨(blk_cell BK131.out 0).trans rfl, (blk_cell BK131.out 1).trans rfl, (blk_cell BK131.out 2).trans rfl, (blk_cell BK131.out 3).trans rfl, hx144_0⟩ (fun hHeld => ?_); refine with_tabW expr_String.tab21 expr_String.bits21 (fun HT_ HW_ => ?_)
                generalize wr.drew = w63 at HO_3 BK131 HB hx144_0 hHeld ⊢
                refine pure_ (i := 0) (N := some 72) (v := ?_) (a' := ?_) #[true, false, false, false, false, false, false, false, false, false] rfl rfl (any_of HT_.out (by kernel_rfl)) (fun _ _ _ h => h) (Or.inl ⟨by rfl, ?_⟩) ?_ ?_
                rotate_left
                ·intro w'
                 go_simp
                 with_reducible rfl
                rotate_left
                ·simp only [Act.put, List.setIfInBounds_toArray, List.set_cons_zero, List.set_cons_succ, i64_w, i32_w]
                 rfl
                refine pure_ (i := 1) (N := some 73) (v := ?_) (a' := ?_) #[true, true, false, false, false, false, false, false, false, false] rfl rfl (any_of HT_.out (by kernel_rfl)) (fun _ _ _ h => h) (Or.inl ⟨by rfl, ?_⟩) ?_ ?_
                rotate_left
                ·intro w'
                 go_simp
                 with_reducible rfl
                rotate_left
                ·simp only [Act.put, List.setIfInBounds_toArray, List.set_cons_zero, List.set_cons_succ, i64_w, i32_w]
                 rfl
                refine pure_ (i := 5) (N := some 77) (v := ?_) (a' := ?_) #[true, true, false, false, false, true, false, false, false, false] rfl rfl (any_of HT_.out (by kernel_rfl)) (fun _ _ _ h => h) (Or.inl ⟨by rfl, ?_⟩) ?_ ?_
                rotate_left
                ·intro w'
                 go_simp
                 with_reducible rfl
                rotate_left
                ·simp only [Act.put, List.setIfInBounds_toArray, List.set_cons_zero, List.set_cons_succ, i64_w, i32_w]
                 rfl
                refine take_ (i := 2) (N := some 74) (v := ?_) (a' := ?_) #[true, true, true, false, false, true, false, false, false, false] rfl rfl (take_ofW HT_.out HW_.out (by kernel_rfl)) (fun _ _ _ h => h) (Or.inl ⟨by rfl, ?_⟩) hHeld ?_ ?_
                rotate_left
                ·rintro w' ⟨s0, s1, s2, s3, s4⟩
                 go_simp
                 with_reducible rfl
                rotate_left
                ·simp only [Act.put, List.setIfInBounds_toArray, List.set_cons_zero, List.set_cons_succ, i64_w, i32_w]
                 rfl
                refine pure_ (i := 3) (N := some 75) (v := ?_) (a' := ?_) #[true, true, true, true, false, true, false, false, false, false] rfl rfl (any_of HT_.out (by kernel_rfl)) (fun _ _ _ h => h) (Or.inl ⟨by rfl, ?_⟩) ?_ ?_
                rotate_left
                ·intro w'
                 go_simp
                 with_reducible rfl
                rotate_left
                ·simp only [Act.put, List.setIfInBounds_toArray, List.set_cons_zero, List.set_cons_succ, i64_w, i32_w]
                 rfl
                refine pure_ (i := 4) (N := some 76) (v := ?_) (a' := ?_) #[true, true, true, true, true, true, false, false, false, false] rfl rfl (any_of HT_.out (by kernel_rfl)) (fun _ _ _ h => h) (Or.inl ⟨by rfl, ?_⟩) ?_ ?_
                rotate_left
                ·intro w'
                 go_simp
                 with_reducible rfl
                rotate_left
                ·simp only [Act.put, List.setIfInBounds_toArray, List.set_cons_zero, List.set_cons_succ, i64_w, i32_w]
                 rfl
                refine take_ (i := 6) (N := some 78) (v := ?_) (a' := ?_) #[true, true, true, true, true, true, true, false, false, false] rfl rfl (take_ofW HT_.out HW_.out (by kernel_rfl)) (fun _ _ _ h => h) (Or.inl ⟨by rfl, ?_⟩) hHeld ?_ ?_
                rotate_left
                ·rintro w' ⟨s0, s1, s2, s3, s4⟩
                 go_simp
                 with_reducible rfl
                rotate_left
                ·simp only [Act.put, List.setIfInBounds_toArray, List.set_cons_zero, List.set_cons_succ, i64_w, i32_w]
                 rfl
                refine pure_ (i := 7) (N := some 79) (v := ?_) (a' := ?_) #[true, true, true, true, true, true, true, true, false, false] rfl rfl (any_of HT_.out (by kernel_rfl)) (fun _ _ _ h => h) (Or.inl ⟨by rfl, ?_⟩) ?_ ?_
                rotate_left
                ·intro w'
                 go_simp
                 with_reducible rfl
                rotate_left
                ·simp only [Act.put, List.setIfInBounds_toArray, List.set_cons_zero, List.set_cons_succ, i64_w, i32_w]
                 rfl
                refine pure_ (i := 8) (N := some 80) (v := ?_) (a' := ?_) #[true, true, true, true, true, true, true, true, true, false] rfl rfl (any_of HT_.out (by kernel_rfl)) (fun _ _ _ h => h) (Or.inl ⟨by rfl, ?_⟩) ?_ ?_
                rotate_left
                ·intro w'
                 go_simp
                 with_reducible rfl
                rotate_left
                ·simp only [Act.put, List.setIfInBounds_toArray, List.set_cons_zero, List.set_cons_succ, i64_w, i32_w]
                 rfl
                refine pure_ (i := 9) (N := some 2) (v := ?_) (a' := ?_) #[true, true, true, true, true, true, true, true, true, true] rfl rfl (any_of HT_.out (by kernel_rfl)) (fun _ _ _ h => h) (Or.inl ⟨by rfl, ?_⟩) ?_ ?_
                rotate_left
                ·intro w'
                 go_simp
                 with_reducible rfl
                rotate_left
                ·simp only [Act.put, List.setIfInBounds_toArray, List.set_cons_zero, List.set_cons_succ, i64_w, i32_w]
                 rfl
                refine done_ (done_of HT_.out (by kernel_rfl)) ?_
                try go_wp2
                go_ret
                exact ⟨by first | rfl | (simp [errW_none, errW_some] <;> rfl) | (simp [*, errW_none, errW_some] <;> rfl), by repeat (first | (with_reducible first | exact HB.out | apply below_alloc | apply pw_below_drewN | apply below_drew1 | refine below_set ?_ GE131.out) | exact HB.out)⟩
               ·rw [if_neg c61] at H
                exact absurd H (by simp)
              ·rw [if_neg c60] at H
               exact absurd H (by simp)
             ·rw [if_neg c59] at H
              exact absurd H (by simp)
            ·rw [if_neg c58] at H
             exact absurd H (by simp)
           ·rw [if_neg c57] at H
            exact absurd H (by simp)
          ·rw [if_neg c56] at H
           have c56b0 : (a0_0 == 10) = false := beq_eq_false_iff_ne.mpr c56
           have c56b1 : (a0_0 != 10) = true := bne_iff_ne.mpr c56
           obtain rfl := Option.some.inj H
           have hcz65_0 : wr.cell? ⟨gb131, 0, none⟩ = some (.int .i64 a0_0) := (blk_cell BK131.out 0).trans rfl
           have hcz65_1 : wr.cell? ⟨gb131, 1, none⟩ = some (.string a0_1) := (blk_cell BK131.out 1).trans rfl
           have hcz65_2 : wr.cell? ⟨gb131, 2, none⟩ = some (.slice A0_2 l0_2.length c0_2) := (blk_cell BK131.out 2).trans rfl
           have hcz65_3 : wr.cell? ⟨gb131, 3, none⟩ = some (.int .i64 a0_3) := (blk_cell BK131.out 3).trans rfl
           have hfz65_0 := blk_frozen BK131.out 0
           have hfz65_1 := blk_frozen BK131.out 1
           have hfz65_2 := blk_frozen BK131.out 2
           have hfz65_3 := blk_frozen BK131.out 3
           go_wp2
           go_ret
           exact ⟨by first | rfl | (simp [errW_none, errW_some] <;> rfl) | (simp [*, errW_none, errW_some] <;> rfl), by repeat (first | (with_reducible first | exact HB.out | apply below_alloc | apply pw_below_drewN | apply below_drew1 | refine below_set ?_ GE131.out) | exact HB.out)⟩
def computuslaw22_known.f : Option Bool := some true
def kK1 : List Nd := [⟨1, ⟨#[49]⟩, [], 0⟩, ⟨8, ⟨#[42]⟩, [⟨1, ⟨#[50]⟩, [], 4⟩, ⟨10, ⟨#[100, 97, 116, 101]⟩, [⟨9, ⟨#[120]⟩, [⟨1, ⟨#[51]⟩, [], 10⟩], 8⟩], 12⟩], 6⟩]
def kK2 : List Nd := [⟨5, ⟨#[100, 97, 116, 101]⟩, [⟨3, ⟨#[50, 48, 50, 52, 45, 48, 49, 45, 48, 49]⟩, [], 5⟩], 0⟩, ⟨3, ⟨#[85, 84, 67]⟩, [], 31⟩]
theorem k_p1 : expr_Parse.f (⟨#[49, 32, 43, 32, 50, 32, 42, 32, 120, 40, 51, 41, 58, 58, 100, 97, 116, 101]⟩ : ByteArray) = some (8, ⟨#[43]⟩, kK1, 2, 0, 0) := by kernel_rfl
theorem k_p2 : expr_Parse.f (⟨#[100, 97, 116, 101, 32, 39, 50, 48, 50, 52, 45, 48, 49, 45, 48, 49, 39, 32, 97, 116, 32, 116, 105, 109, 101, 32, 122, 111, 110, 101, 32, 39, 85, 84, 67, 39]⟩ : ByteArray) = some (8, ⟨#[97, 116, 32, 116, 105, 109, 101, 32, 122, 111, 110, 101]⟩, kK2, 18, 0, 0) := by kernel_rfl
theorem k_str : expr_String.f 60 8 ⟨#[43]⟩ kK1 2 = some ⟨#[40, 49, 32, 43, 32, 40, 50, 32, 42, 32, 40, 120, 40, 51, 41, 58, 58, 100, 97, 116, 101, 41, 41, 41]⟩ := by kernel_rfl
theorem k_steps : expr_Steps.f 60 8 ⟨#[43]⟩ kK1 2 = some 7 := by kernel_rfl
theorem k_kid {w : World} {A : Option Addr} (h : Kd.C k24 w A kK1.length kK1) : ∃ ad, A = some ad ∧ w.cell? ⟨ad.block, ad.off + 4 + 1, none⟩ = some (.string ⟨#[42]⟩) := by
 obtain ⟨ad, A2, c2, e2, x0, x1, x2, x3, _, _⟩ := at_T24 h 1 (by decide) (by decide)
 refine ⟨ad, e2, ?_⟩
 have e : (rd_T24 kK1 1).f1 = ⟨#[42]⟩ := rfl
 rw [e] at x1
 simpa [Go.Addr.add] using x1
set_option maxHeartbeats 4000000 in
set_option maxRecDepth 100000 in
theorem computuslaw22_known.calls (r : Bool) (w : World) (h : computuslaw22_known.f = some r) :
  Calls Tryd.prog 7 #[] w fun e w' => e = .returned (.bool r) ∧ Below w.heap.size w w' := by
 obtain rfl := Option.some.inj h
 clear h
 have H1 := Aside0.mk (expr_Parse.calls ⟨#[49, 32, 43, 32, 50, 32, 42, 32, 120, 40, 51, 41, 58, 58, 100, 97, 116, 101]⟩ 8 ⟨#[43]⟩ kK1 2 0 0 w k_p1)
 have P2 := Aside0.mk (fun W => expr_Parse.calls ⟨#[100, 97, 116, 101, 32, 39, 50, 48, 50, 52, 45, 48, 49, 45, 48, 49, 39, 32, 97, 116, 32, 116, 105, 109, 101, 32, 122, 111, 110, 101, 32, 39, 85, 84, 67, 39]⟩ 8 ⟨#[97, 116, 32, 116, 105, 109, 101, 32, 122, 111, 110, 101]⟩ kK2 18 0 0 W k_p2)
 have S1 := Aside0.mk (fun A c W hC hc => expr_String.calls 60 8 ⟨#[43]⟩ A c kK1 2 ⟨#[40, 49, 32, 43, 32, 40, 50, 32, 42, 32, 40, 120, 40, 51, 41, 58, 58, 100, 97, 116, 101, 41, 41, 41]⟩ W hC hc k_str)
 have T1 := Aside0.mk (fun A c W hC hc => expr_Steps.calls 60 8 ⟨#[43]⟩ A c kK1 2 7 W hC hc k_steps)
 go_enter Tryd.func7, Tryd.ntmps7
 go_wp2_with (first
  | (go_at_call 6; with_reducible refine H1.out.mono ?_; rintro e w1 ⟨v, rfl, ho, hb⟩; obtain ⟨A, c, hv, hlc, hr⟩ := Kd.R_reads ho; subst hv; have HB1 := Aside0.mk hb; have HR1 := Aside0.mk hr; have HL1 := Aside0.mk hlc; have hl2 : (kK1.length : Int) = 2 := rfl; clear ho hb hr hlc H1)
  | (go_at_call 6; with_reducible refine (P2.out _).mono ?_; rintro e w2 ⟨v2, rfl, ho2, hb2⟩; obtain ⟨A', c', hv', _, _⟩ := Kd.R_reads ho2; subst hv'; have BK1 := blk_below (heap_alloc_new w1 _) hb2; have HC2 := Kd.C_below (Kd.C_alloc HR1.out (.cells #[.int .i64 8, .string ⟨#[43]⟩, .slice A kK1.length c, .int .i64 2] 24)) hb2; obtain ⟨ad, e2, y1⟩ := k_kid HC2; subst e2; have hs2 : w1.heap.size < w2.heap.size := (by (have h0 := hb2.size; rw [World.size_alloc] at h0; omega)); have q1 := fun i => blk_cell BK1 i; have had : ad.block < w2.heap.size := World.block_lt_of_cell? _ (⟨ad.block, ad.off + 4 + 1, none⟩ : Addr) y1; have HB2 := Aside0.mk hb2; have HCC := Aside0.mk HC2; have HK1 := Aside0.mk BK1; clear ho2 hb2 HC2 BK1)
  | (go_at_call 16; with_reducible refine (S1.out (some ad) c _ (Kd.C_alloc HCC.out _) HL1.out).mono ?_; rintro e w4 ⟨rfl, hb4⟩; have BK4 := blk_below (blk_alloc HK1.out _) hb4; have q4 := fun i => blk_cell BK4 i; have HC4 := Aside0.mk (Kd.C_below (Kd.C_alloc HCC.out _) hb4); have hs4 : w1.heap.size < w4.heap.size := (by (have h0 := hb4.size; rw [World.size_alloc] at h0; omega)); have HB4 := Aside0.mk hb4; clear hb4 BK4)
  | (go_at_call 17; with_reducible refine (T1.out (some ad) c _ HC4.out HL1.out).mono ?_; rintro e w5 ⟨rfl, hb5⟩; have HB5 := Aside0.mk hb5; clear hb5))
 go_ret
 have b1 := below_alloc HB1.out (.cells #[.int .i64 8, .string ⟨#[43]⟩, .slice (some ad) kK1.length c, .int .i64 2] 24)
 have b2 := below_then b1 b1.size HB2.out
 have b3 := below_alloc b2 (.cells #[.int .i64 8, .string ⟨#[97, 116, 32, 116, 105, 109, 101, 32, 122, 111, 110, 101]⟩, .slice A' kK2.length c', .int .i64 18] 24)
 have b4 := below_then b3 b3.size HB4.out
 exact ⟨rfl, below_then b4 b4.size HB5.out⟩
end Go.Proofs.YtnjoncbgekonbaaDoor.PExpr
end
section
namespace Go.Proofs.YtnjoncbgekonbaaDoor.PExpr
open Go.RowKit Go.Proofs.YtnjoncbgekonbaaDoorW.PrintWords Go.Proofs.YtnjoncbgekonbaaDoorW.PrintLast Go.Proofs.YtnjoncbgekonbaaDoorW.PrintMore
set_option linter.unusedVariables false
set_option linter.unusedSimpArgs false
theorem bind_at {α β : Type} {o : Option α} {a : α} (h : o = some a) (f : α → Option β) : o.bind f = f a := by
  rw [h]
  rfl
theorem known_then : Ev (fun k => (computuslaw22_known.f).bind fun t => some t) true := Ev.now true
theorem parse_f {s : ByteArray} {n : Nd} {pos why : Int} (h : parseS s = some (n, pos, why)) : expr_Parse.f s = some (n.f0, n.f1, n.f2, n.f3, pos, why) := by
  unfold expr_Parse.f
  rw [h]
  rfl
end Go.Proofs.YtnjoncbgekonbaaDoor.PExpr
end
section
namespace Go.Proofs.YtnjoncbgekonbaaDoor.PExpr
open Go.RowKit Go.Proofs.YtnjoncbgekonbaaDoorW.PrintWords Go.Proofs.YtnjoncbgekonbaaDoorW.PrintLast Go.Proofs.YtnjoncbgekonbaaDoorW.PrintMore
set_option linter.unusedVariables false
set_option linter.unusedSimpArgs false
inductive Tks (len : Int) : List Tk → Prop
  | fin (t : Tk) (h : t.f0 = 4) (h0 : 0 ≤ t.f2) (h1 : t.f2 ≤ len) : Tks len [t]
  | more (t : Tk) (r : List Tk) (h : t.f0 ≠ 4) (h0 : 0 ≤ t.f2) (h1 : t.f2 < len) (hr : Tks len r) : Tks len (t :: r)
inductive NdIn (len : Int) : Nd → Prop
  | mk (n : Nd) (h0 : 0 ≤ n.f3) (h1 : n.f3 < len) (hl : n.f2.length ≤ 6000) (hk : ∀ m, m ∈ n.f2 → NdIn len m) : NdIn len n
def Good (len : Int) (m : Nat) : Option Res → Prop
  | none => False
  | some (.ok n l) => NdIn len n ∧ Tks len l ∧ l.length ≤ m
  | some (.bad why pos) => 0 ≤ pos ∧ pos ≤ len ∧ (why = 30 ∨ why = 31)
theorem Tks.ne {len : Int} {l : List Tk} (h : Tks len l) : l ≠ [] := by cases h <;> simp
theorem Tks.place {len : Int} {t : Tk} {r : List Tk} (h : Tks len (t :: r)) : 0 ≤ t.f2 ∧ t.f2 ≤ len := by
  cases h with
  | fin _ h h0 h1 => exact ⟨h0, h1⟩
  | more _ _ h h0 h1 hr => exact ⟨h0, by omega⟩
theorem Tks.tail {len : Int} {t : Tk} {r : List Tk} (h : Tks len (t :: r)) (h4 : t.f0 ≠ 4) : 0 ≤ t.f2 ∧ t.f2 < len ∧ Tks len r := by
  cases h with
  | fin _ h h0 h1 => exact absurd h h4
  | more _ _ h h0 h1 hr => exact ⟨h0, h1, hr⟩
theorem isIt_kind {ss : List ByteArray} {t : Tk} (h : isIt ss t = true) : t.f0 ≠ 4 := by
  unfold isIt at h
  simp only [Bool.and_eq_true, Bool.or_eq_true, beq_iff_eq] at h
  omega
theorem Good.mono {len : Int} {m m' : Nat} {r : Option Res} (h : Good len m r) (hm : m ≤ m') : Good len m' r := by
  cases r with
  | none => exact h
  | some r =>
    cases r with
    | ok n l => exact ⟨h.1, h.2.1, Nat.le_trans h.2.2 hm⟩
    | bad why pos => exact h
theorem Good.next {len : Int} {m m' : Nat} {r : Option Res} {f : Nd → List Tk → Option Res} (h : Good len m r) (hf : ∀ n l, NdIn len n → Tks len l → l.length ≤ m → Good len m' (f n l)) : Good len m' (r.bind fun n => n.then f) := by
  cases r with
  | none => exact h.elim
  | some r =>
    cases r with
    | ok n l => exact hf n l h.1 h.2.1 h.2.2
    | bad why pos => exact h
theorem Tks.empty {len : Int} {l : List Tk} (h : Tks len l) : ¬ l.isEmpty = true := by
  have := h.ne
  cases l with
  | nil => exact absurd rfl this
  | cons t r => simp
theorem in2 {len : Int} {k : Int} {s : ByteArray} {n m : Nd} {p : Int} (hn : NdIn len n) (hm : NdIn len m) (h0 : 0 ≤ p) (h1 : p < len) : NdIn len ⟨k, s, [n, m], p⟩ :=
  .mk _ h0 h1 (show 2 ≤ 6000 by decide) fun x hx => by
    have hx' : x ∈ [n, m] := hx
    simp only [List.mem_cons, List.not_mem_nil, or_false] at hx'
    rcases hx' with rfl | rfl
    · exact hn
    · exact hm
theorem in1 {len : Int} {k : Int} {s : ByteArray} {n : Nd} {p : Int} (hn : NdIn len n) (h0 : 0 ≤ p) (h1 : p < len) : NdIn len ⟨k, s, [n], p⟩ :=
  .mk _ h0 h1 (show 1 ≤ 6000 by decide) fun x hx => by
    have hx' : x ∈ [n] := hx
    simp only [List.mem_cons, List.not_mem_nil, or_false] at hx'
    rw [hx']
    exact hn
theorem in0 {len : Int} {k : Int} {s : ByteArray} {p : Int} (h0 : 0 ≤ p) (h1 : p < len) : NdIn len ⟨k, s, [], p⟩ :=
  .mk _ h0 h1 (show 0 ≤ 6000 by decide) fun x hx => by cases hx
theorem rowL_good {len : Int} {M : Nat} {part : List Tk → Option Res} {ss : List ByteArray} (hp : ∀ l, Tks len l → l.length ≤ M → Good len l.length (part l)) : ∀ (k : Nat) (n : Nd) (l : List Tk), l.length < k → l.length ≤ M → NdIn len n → Tks len l → Good len l.length (rowL part ss k n l)
  | 0, n, l, hk, _, _, _ => by omega
  | k + 1, n, [], hk, _, _, hl => absurd rfl hl.ne
  | k + 1, n, t :: r, hk, hM, hn, hl => by
    unfold rowL
    by_cases hi : isIt ss t = true
    · obtain ⟨h0, h1, hr⟩ := hl.tail (isIt_kind hi)
      rw [if_pos hi, if_neg hr.empty]
      rw [List.length_cons] at hk hM
      refine Good.next (hp r hr (by omega)) (fun m l hm hl' hle => ?_)
      exact (rowL_good hp k _ l (by omega) (by omega) (in2 hn hm h0 h1) hl').mono (by rw [List.length_cons]; omega)
    · rw [if_neg hi]
      exact ⟨hn, hl, Nat.le_refl _⟩
theorem rowP_good {len : Int} {M : Nat} {part : List Tk → Option Res} {ss : List ByteArray} (hp : ∀ l, Tks len l → l.length ≤ M → Good len l.length (part l)) (k : Nat) (l : List Tk) (hk : l.length < k) (hM : l.length ≤ M) (hl : Tks len l) : Good len l.length (rowP part ss k l) := by
  unfold rowP
  refine Good.next (hp l hl hM) (fun n l' hn hl' hle => ?_)
  exact (rowL_good hp k n l' (by omega) (by omega) hn hl').mono hle
theorem prefixP_good {len : Int} {M : Nat} {again other : Int → List Tk → Option Res} {kind : Int} {s : ByteArray} {d : Int} (ha : d + 1 ≤ 20 → ∀ l, Tks len l → l.length ≤ M → Good len l.length (again (d + 1) l)) (ho : ∀ l, Tks len l → l.length ≤ M → Good len l.length (other d l)) (l : List Tk) (hM : l.length ≤ M) (hl : Tks len l) : Good len l.length (prefixP again other kind s d l) := by
  cases l with
  | nil => exact absurd rfl hl.ne
  | cons t r =>
    unfold prefixP
    dsimp only
    by_cases hi : isIt [s] t = true
    · obtain ⟨h0, h1, hr⟩ := hl.tail (isIt_kind hi)
      rw [if_pos hi, if_neg hr.empty]
      by_cases hd : d + 1 > 20
      · rw [if_pos hd]
        exact ⟨h0, by omega, Or.inr rfl⟩
      · rw [if_neg hd]
        exact Good.next (ha (by omega) r hr (by rw [List.length_cons] at hM; omega)) (fun m l' hm hl' hle => ⟨in1 hm h0 h1, hl', by rw [List.length_cons]; omega⟩)
    · rw [if_neg hi]
      exact ho _ hl hM
theorem cmpP_good {len : Int} {M : Nat} {sum : List Tk → Option Res} (hp : ∀ l, Tks len l → l.length ≤ M → Good len l.length (sum l)) (l : List Tk) (hM : l.length ≤ M) (hl : Tks len l) : Good len l.length (cmpP sum l) := by
  unfold cmpP
  refine Good.next (hp l hl hM) (fun n l' hn hl' hle => ?_)
  cases l' with
  | nil => exact absurd rfl hl'.ne
  | cons t r =>
    dsimp only
    by_cases hi : isIt cmps t = true
    · obtain ⟨h0, h1, hr⟩ := hl'.tail (isIt_kind hi)
      rw [if_pos hi, if_neg hr.empty]
      rw [List.length_cons] at hle
      exact Good.next (hp r hr (by omega)) (fun m l'' hm hl'' hle'' => ⟨in2 hn hm h0 h1, hl'', by omega⟩)
    · rw [if_neg hi]
      exact ⟨hn, hl', hle⟩
theorem wantP_good {len : Int} {m : Nat} {s : ByteArray} {l : List Tk} {f : List Tk → Option Res} (hl : Tks len l) (hf : ∀ r, Tks len r → r.length < l.length → Good len m (f r)) : Good len m (wantP s l f) := by
  cases l with
  | nil => exact absurd rfl hl.ne
  | cons t r =>
    unfold wantP
    dsimp only
    by_cases hi : isIt [s] t = true
    · obtain ⟨h0, h1, hr⟩ := hl.tail (isIt_kind hi)
      rw [if_pos hi, if_neg hr.empty]
      exact hf r hr (by rw [List.length_cons]; omega)
    · rw [if_neg hi]
      exact ⟨hl.place.1, hl.place.2, Or.inl rfl⟩
theorem zoneL_good {len : Int} {M : Nat} {cast : List Tk → Option Res} (hp : ∀ l, Tks len l → l.length ≤ M → Good len l.length (cast l)) : ∀ (k : Nat) (n : Nd) (l : List Tk), l.length < k → l.length ≤ M → NdIn len n → Tks len l → Good len l.length (zoneL cast k n l)
  | 0, n, l, hk, _, _, _ => by omega
  | k + 1, n, [], hk, _, _, hl => absurd rfl hl.ne
  | k + 1, n, t :: r, hk, hM, hn, hl => by
    unfold zoneL
    by_cases hi : isIt [sAt] t = true
    · obtain ⟨h0, h1, hr⟩ := hl.tail (isIt_kind hi)
      rw [if_pos hi, if_neg hr.empty]
      rw [List.length_cons] at hk hM
      refine wantP_good hr (fun r1 hr1 hle1 => wantP_good hr1 (fun r2 hr2 hle2 => Good.next (hp r2 hr2 (by omega)) (fun m l hm hl' hle => ?_)))
      exact (zoneL_good hp k _ l (by omega) (by omega) (in2 hn hm h0 h1) hl').mono (by rw [List.length_cons]; omega)
    · rw [if_neg hi]
      exact ⟨hn, hl, Nat.le_refl _⟩
theorem zoneP_good {len : Int} {M : Nat} {cast : List Tk → Option Res} (hp : ∀ l, Tks len l → l.length ≤ M → Good len l.length (cast l)) (k : Nat) (l : List Tk) (hk : l.length < k) (hM : l.length ≤ M) (hl : Tks len l) : Good len l.length (zoneP cast k l) := by
  unfold zoneP
  refine Good.next (hp l hl hM) (fun n l' hn hl' hle => ?_)
  exact (zoneL_good hp k n l' (by omega) (by omega) hn hl').mono hle
theorem takeP_good {len : Int} {m : Nat} {l : List Tk} {f : Tk → List Tk → Option Res} (hl : Tks len l) (h4 : ∀ t, t.f0 = 4 → 0 ≤ t.f2 → t.f2 ≤ len → Good len m (f t l)) (hf : ∀ t r, t.f0 ≠ 4 → 0 ≤ t.f2 → t.f2 < len → Tks len r → r.length < l.length → Good len m (f t r)) : Good len m (takeP l f) := by
  cases l with
  | nil => exact absurd rfl hl.ne
  | cons t r =>
    unfold takeP
    dsimp only
    by_cases hi : t.f0 = 4
    · rw [if_pos hi]
      exact h4 t hi hl.place.1 hl.place.2
    · obtain ⟨h0, h1, hr⟩ := hl.tail hi
      rw [if_neg hi, if_neg hr.empty]
      exact hf t r hi h0 h1 hr (by rw [List.length_cons]; omega)
theorem castL_good {len : Int} : ∀ (k : Nat) (n : Nd) (l : List Tk), l.length < k → NdIn len n → Tks len l → Good len l.length (castL k n l)
  | 0, n, l, hk, _, _ => by omega
  | k + 1, n, [], hk, _, hl => absurd rfl hl.ne
  | k + 1, n, t :: r, hk, hn, hl => by
    unfold castL
    by_cases hi : isIt [sCast] t = true
    · obtain ⟨h0, h1, hr⟩ := hl.tail (isIt_kind hi)
      rw [if_pos hi, if_neg hr.empty]
      rw [List.length_cons] at hk
      refine takeP_good hr (fun u hu hu0 hu1 => ?_) (fun u r1 hu hu0 hu1 hr1 hle1 => ?_)
      · rw [if_pos (Or.inl (by omega))]
        exact ⟨hu0, hu1, Or.inl rfl⟩
      · by_cases hc : u.f0 ≠ 1 ∨ hasB kept8 u.f1 = true
        · rw [if_pos hc]
          exact ⟨hu0, by omega, Or.inl rfl⟩
        · rw [if_neg hc]
          exact (castL_good k _ r1 (by omega) (in1 hn h0 h1) hr1).mono (by rw [List.length_cons]; omega)
    · rw [if_neg hi]
      exact ⟨hn, hl, Nat.le_refl _⟩
theorem castP_good {len : Int} {M : Nat} {prim : List Tk → Option Res} (hp : ∀ l, Tks len l → l.length ≤ M → Good len l.length (prim l)) (k : Nat) (l : List Tk) (hk : l.length < k) (hM : l.length ≤ M) (hl : Tks len l) : Good len l.length (castP prim k l) := by
  unfold castP
  refine Good.next (hp l hl hM) (fun n l' hn hl' hle => ?_)
  exact (castL_good k n l' (by omega) hn hl').mono hle
theorem argsL_good {len : Int} {m : Nat} {part : List Tk → Option Res} {f : List Nd → List Tk → Option Res} (hp : ∀ l, Tks len l → l.length ≤ m → Good len l.length (part l)) (hf : ∀ ns l, ns.length ≤ 6000 → (∀ x, x ∈ ns → NdIn len x) → Tks len l → l.length ≤ m → Good len m (f ns l)) : ∀ (k : Nat) (ns : List Nd) (l : List Tk), ns.length + k ≤ 6000 → l.length < k → l.length ≤ m → (∀ x, x ∈ ns → NdIn len x) → Tks len l → Good len m (argsL part k ns l f)
  | 0, ns, l, _, hk, _, _, _ => by omega
  | k + 1, ns, [], _, hk, _, _, hl => absurd rfl hl.ne
  | k + 1, ns, t :: r, hK, hk, hm, hn, hl => by
    unfold argsL
    by_cases hi : isIt [sComma] t = true
    · obtain ⟨h0, h1, hr⟩ := hl.tail (isIt_kind hi)
      rw [if_pos hi, if_neg hr.empty]
      rw [List.length_cons] at hk hm
      refine Good.next (hp r hr (by omega)) (fun x l hx hl' hle => ?_)
      refine argsL_good hp hf k _ l (by rw [List.length_append, List.length_singleton]; omega) (by omega) (by omega) (fun y hy => ?_) hl'
      rcases List.mem_append.1 hy with hy | hy
      · exact hn y hy
      · rw [List.mem_singleton.1 hy]
        exact hx
    · rw [if_neg hi]
      exact wantP_good hl (fun r1 hr1 hle1 => hf ns r1 (by omega) hn hr1 (by omega))
theorem argsP_good {len : Int} {m : Nat} {part : List Tk → Option Res} {f : List Nd → List Tk → Option Res} (hp : ∀ l, Tks len l → l.length ≤ m → Good len l.length (part l)) (hf : ∀ ns l, ns.length ≤ 6000 → (∀ x, x ∈ ns → NdIn len x) → Tks len l → l.length ≤ m → Good len m (f ns l)) (k : Nat) (hK : k ≤ 5000) (l : List Tk) (hk : l.length < k) (hm : l.length ≤ m) (hl : Tks len l) : Good len m (argsP part k l f) := by
  cases l with
  | nil => exact absurd rfl hl.ne
  | cons t r =>
    unfold argsP
    dsimp only
    by_cases hi : isIt [sShut] t = true
    · obtain ⟨h0, h1, hr⟩ := hl.tail (isIt_kind hi)
      rw [if_pos hi, if_neg hr.empty]
      rw [List.length_cons] at hm
      exact hf [] r (Nat.zero_le _) (fun x hx => by cases hx) hr (by omega)
    · rw [if_neg hi]
      refine Good.next (hp _ hl hm) (fun x l' hx hl' hle => ?_)
      refine argsL_good hp hf k _ l' (by rw [List.length_singleton]; omega) (by omega) (by omega) (fun y hy => ?_) hl'
      rw [List.mem_singleton.1 hy]
      exact hx
theorem namedP_good {len : Int} {or : Int → List Tk → Option Res} {k : Nat} {d : Int} {t : Tk} (l : List Tk) (hp : d + 1 ≤ 20 → ∀ l', Tks len l' → l'.length ≤ l.length → Good len l'.length (or (d + 1) l')) (h0 : 0 ≤ t.f2) (h1 : t.f2 < len) (hK : k ≤ 5000) (hk : l.length < k) (hl : Tks len l) : Good len l.length (namedP or k d t l) := by
  cases l with
  | nil => exact absurd rfl hl.ne
  | cons u r =>
    unfold namedP
    dsimp only
    by_cases hi : u.f0 = 2 ∧ hasB types4 t.f1 = true
    · obtain ⟨h2, h3, hr⟩ := hl.tail (by omega)
      rw [if_pos hi, if_neg hr.empty]
      exact ⟨in1 (in0 h2 h3) h0 h1, hr, by rw [List.length_cons]; omega⟩
    · rw [if_neg hi]
      refine wantP_good hl (fun r1 hr1 hle1 => ?_)
      by_cases hd : d + 1 > 20
      · rw [if_pos hd]
        exact ⟨h0, by omega, Or.inr rfl⟩
      · rw [if_neg hd]
        exact argsP_good (m := (u :: r).length) (f := fun ns l => some (.ok ⟨9, t.f1, ns, t.f2⟩ l)) (fun l' hl' hm => hp (by omega) l' hl' hm) (fun ns l' hlen hns hl' hm => ⟨.mk _ h0 h1 hlen hns, hl', hm⟩) k hK r1 (by omega) (by omega) hr1
theorem primP_good {len : Int} {or : Int → List Tk → Option Res} {k : Nat} {d : Int} (l : List Tk) (hp : d + 1 ≤ 20 → ∀ l', Tks len l' → l'.length ≤ l.length → Good len l'.length (or (d + 1) l')) (hK : k ≤ 5000) (hk : l.length < k) (hl : Tks len l) : Good len l.length (primP or k d l) := by
  unfold primP
  refine takeP_good hl (fun t h4 h0 h1 => ?_) (fun t r h4 h0 h1 hr hle => ?_)
  · rw [if_neg (by omega), if_neg (by omega), if_neg (by omega), if_neg (by omega), if_neg (by omega)]
    exact ⟨h0, h1, Or.inl rfl⟩
  · by_cases c1 : t.f0 = 0
    · rw [if_pos c1]
      exact ⟨in0 h0 h1, hr, by omega⟩
    rw [if_neg c1]
    by_cases c2 : t.f0 = 2
    · rw [if_pos c2]
      exact ⟨in0 h0 h1, hr, by omega⟩
    rw [if_neg c2]
    by_cases c3 : t.f0 = 3 ∧ t.f1 = sOpen
    · rw [if_pos c3]
      by_cases hd : d + 1 > 20
      · rw [if_pos hd]
        exact ⟨h0, by omega, Or.inr rfl⟩
      · rw [if_neg hd]
        refine Good.next (hp (by omega) r hr (by omega)) (fun n l' hn hl' hle' => ?_)
        exact wantP_good hl' (fun r1 hr1 hle1 => ⟨hn, hr1, by omega⟩)
    rw [if_neg c3]
    by_cases c4 : t.f0 = 1 ∧ (t.f1 = sTrue ∨ t.f1 = sFalse)
    · rw [if_pos c4]
      exact ⟨in0 h0 h1, hr, by omega⟩
    rw [if_neg c4]
    by_cases c5 : t.f0 = 1 ∧ hasB kept8 t.f1 = false
    · rw [if_pos c5]
      exact (namedP_good r (fun hd l' hl' hm => hp hd l' hl' (by omega)) h0 h1 hK (by omega) hr).mono (by omega)
    · rw [if_neg c5]
      exact ⟨h0, by omega, Or.inl rfl⟩
theorem parse_places {len : Int} : ∀ (k lv : Nat) (d : Int) (l : List Tk), k ≤ 5000 → lv ≤ 9 → 0 ≤ d → d ≤ 20 → l.length + 12 * (21 - d).toNat + (10 - lv) + 1 ≤ k → Tks len l → Good len l.length (parse k lv d l)
  | 0, lv, d, l, hK, h9, h0, h20, hk, hl => by omega
  | k + 1, lv, d, l, hK, h9, h0, h20, hk, hl => by
    have step : ∀ m, lv < m → m ≤ 9 → ∀ l', Tks len l' → l'.length ≤ l.length → Good len l'.length (parse k m d l') := fun m h1 h2 l' hl' hm => parse_places k m d l' (by omega) h2 h0 h20 (by omega) hl'
    have deep : ∀ m, lv ≤ m + 9 → m ≤ 9 → d + 1 ≤ 20 → ∀ l', Tks len l' → l'.length ≤ l.length → Good len l'.length (parse k m (d + 1) l') := fun m h1 h2 hd l' hl' hm => parse_places k m (d + 1) l' (by omega) h2 (by omega) hd (by omega) hl'
    have hk' : l.length < k := by omega
    match lv, h9, step, deep with
    | 0, _, step, deep => exact rowP_good (step 1 (by omega) (by omega)) k l hk' (Nat.le_refl _) hl
    | 1, _, step, deep => exact rowP_good (step 2 (by omega) (by omega)) k l hk' (Nat.le_refl _) hl
    | 2, _, step, deep => exact prefixP_good (fun hd => deep 2 (by omega) (by omega) hd) (step 3 (by omega) (by omega)) l (Nat.le_refl _) hl
    | 3, _, step, deep => exact cmpP_good (step 4 (by omega) (by omega)) l (Nat.le_refl _) hl
    | 4, _, step, deep => exact rowP_good (step 5 (by omega) (by omega)) k l hk' (Nat.le_refl _) hl
    | 5, _, step, deep => exact rowP_good (step 6 (by omega) (by omega)) k l hk' (Nat.le_refl _) hl
    | 6, _, step, deep => exact prefixP_good (fun hd => deep 6 (by omega) (by omega) hd) (step 7 (by omega) (by omega)) l (Nat.le_refl _) hl
    | 7, _, step, deep => exact zoneP_good (step 8 (by omega) (by omega)) k l hk' (Nat.le_refl _) hl
    | 8, _, step, deep => exact castP_good (step 9 (by omega) (by omega)) k l hk' (Nat.le_refl _) hl
    | 9, _, step, deep => exact primP_good l (fun hd => deep 0 (by omega) (by omega) hd) (by omega) hk' hl
end Go.Proofs.YtnjoncbgekonbaaDoor.PExpr
end
section
namespace Go.Proofs.YtnjoncbgekonbaaDoor.PExpr
open Go.RowKit Go.Proofs.YtnjoncbgekonbaaDoorW.PrintWords Go.Proofs.YtnjoncbgekonbaaDoorW.PrintLast Go.Proofs.YtnjoncbgekonbaaDoorW.PrintMore
set_option linter.unusedVariables false
set_option linter.unusedSimpArgs false
mutual
/-- A node without its places. -/
def strip : Nd → Nd
  | ⟨k, t, l, _⟩ => ⟨k, t, strips l, 0⟩
def strips : List Nd → List Nd
  | [] => []
  | n :: l => strip n :: strips l
end
inductive Sm (z : List Tk) : List Tk → List Tk → Prop
  | fin (t : Tk) (h : t.f0 = 4) : Sm z [t] z
  | more (t t' : Tk) (r r' : List Tk) (h : t.f0 ≠ 4) (hk : t'.f0 = t.f0) (ht : t'.f1 = t.f1) (hr : Sm z r r') : Sm z (t :: r) (t' :: r')
def Shuts (z : List Tk) : Prop := ∃ u r, z = u :: r ∧ u.f0 = 3 ∧ u.f1 = sShut ∧ r ≠ []
def SimR (z : List Tk) : Res → Res → Prop
  | .ok n r, .ok n' r' => strip n = strip n' ∧ Sm z r r'
  | .ok _ _, .bad why _ => why = 31
  | .bad _ _, _ => True
def SimO (z : List Tk) (a b : Option Res) : Prop := ∀ x y, a = some x → b = some y → SimR z x y
theorem SimR.bad31 (z : List Tk) (x : Res) (p : Int) : SimR z x (.bad 31 p) := by cases x <;> simp [SimR]
theorem SimO.no (z : List Tk) (b : Option Res) : SimO z none b := fun x y hx => by cases hx
theorem SimO.no' (z : List Tk) (a : Option Res) : SimO z a none := fun x y _ hy => by cases hy
theorem SimO.bad (z : List Tk) (w p : Int) (b : Option Res) : SimO z (some (.bad w p)) b := fun x y hx hy => by
  cases hx
  trivial
theorem SimO.deep (z : List Tk) (a : Option Res) (p : Int) : SimO z a (some (.bad 31 p)) := fun x y hx hy => by
  cases hy
  exact SimR.bad31 z x p
theorem SimO.ok {z : List Tk} {n n' : Nd} {r r' : List Tk} (h : strip n = strip n') (hr : Sm z r r') : SimO z (some (.ok n r)) (some (.ok n' r')) := fun x y hx hy => by
  cases hx
  cases hy
  exact ⟨h, hr⟩
theorem SimO.next {z : List Tk} {a b : Option Res} {f g : Nd → List Tk → Option Res} (h : SimO z a b) (hf : ∀ n n' r r', strip n = strip n' → Sm z r r' → SimO z (f n r) (g n' r')) : SimO z (a.bind fun n => n.then f) (b.bind fun n => n.then g) := by
  intro x y hx hy
  cases a with
  | none => cases hx
  | some a =>
    cases b with
    | none => cases hy
    | some b =>
      have q := h a b rfl rfl
      cases a with
      | bad w p =>
        cases hx
        trivial
      | ok n r =>
        cases b with
        | bad w p =>
          cases hy
          have q' : w = 31 := q
          subst q'
          exact SimR.bad31 z x p
        | ok n' r' => exact hf n n' r r' q.1 q.2 x y hx hy
theorem SimO.ite {z : List Tk} {c c' : Prop} [Decidable c] [Decidable c'] {a b : Option Res} (h : SimO z a b) : SimO z (if c then none else a) (if c' then none else b) := by
  by_cases hc : c
  · rw [if_pos hc]
    exact .no z _
  · by_cases hc' : c'
    · rw [if_pos hc']
      exact .no' z _
    · rw [if_neg hc, if_neg hc']
      exact h
theorem isIt_alike {ss : List ByteArray} {t t' : Tk} (hk : t'.f0 = t.f0) (ht : t'.f1 = t.f1) : isIt ss t' = isIt ss t := by
  unfold isIt
  rw [hk, ht]
theorem isIt_last {ss : List ByteArray} {t : Tk} (h : t.f0 = 4) : isIt ss t = false := by
  unfold isIt
  rw [h]
  rfl
theorem isIt_shut {ss : List ByteArray} {u : Tk} (hu : u.f1 = sShut) (hs : hasB ss sShut = false) : isIt ss u = false := by
  unfold isIt
  rw [hu, hs, Bool.and_false]
theorem strip2 {k : Int} {s : ByteArray} {n m n' m' : Nd} {p p' : Int} (hn : strip n = strip n') (hm : strip m = strip m') : strip ⟨k, s, [n, m], p⟩ = strip ⟨k, s, [n', m'], p'⟩ := by
  simp only [strip, strips, hn, hm]
theorem strip1 {k : Int} {s : ByteArray} {n n' : Nd} {p p' : Int} (hn : strip n = strip n') : strip ⟨k, s, [n], p⟩ = strip ⟨k, s, [n'], p'⟩ := by
  simp only [strip, strips, hn]
theorem strip0 {k : Int} {s : ByteArray} {p p' : Int} : strip ⟨k, s, [], p⟩ = strip ⟨k, s, [], p'⟩ := by
  simp only [strip, strips]
theorem strips_snoc {l l' : List Nd} {n n' : Nd} (h : strips l = strips l') (hn : strip n = strip n') : strips (l ++ [n]) = strips (l' ++ [n']) := by
  have e : ∀ (l : List Nd) (n : Nd), strips (l ++ [n]) = strips l ++ [strip n] := by
    intro l n
    induction l with
    | nil => rfl
    | cons a l ih =>
      show strip a :: strips (l ++ [n]) = strip a :: strips l ++ [strip n]
      rw [ih]
      rfl
  rw [e, e, h, hn]
section
variable {z : List Tk}
theorem rowL_sim (hz : Shuts z) {part part' : List Tk → Option Res} {ss : List ByteArray} (hp : ∀ l l', Sm z l l' → SimO z (part l) (part' l')) (hs : hasB ss sShut = false) : ∀ (k k' : Nat) (n n' : Nd) (l l' : List Tk), strip n = strip n' → Sm z l l' → SimO z (rowL part ss k n l) (rowL part' ss k' n' l')
  | 0, k', n, n', l, l', _, _ => .no z _
  | k + 1, 0, n, n', l, l', _, _ => .no' z _
  | k + 1, k' + 1, n, n', _, _, hn, .fin t h => by
    have hF : Sm z [t] z := .fin t h
    obtain ⟨u, r, rfl, hu, hu1, hr⟩ := hz
    unfold rowL
    rw [isIt_last h, isIt_shut hu1 hs, if_neg (by simp), if_neg (by simp)]
    exact .ok hn hF
  | k + 1, k' + 1, n, n', _, _, hn, .more t t' r r' h hk ht hr => by
    unfold rowL
    rw [isIt_alike hk ht]
    by_cases hi : isIt ss t = true
    · rw [if_pos hi, if_pos hi]
      refine .ite ((hp r r' hr).next fun m m' l l' hm hl => ?_)
      exact rowL_sim hz hp hs k k' _ _ l l' (by rw [ht]; exact strip2 hn hm) hl
    · rw [if_neg hi, if_neg hi]
      exact .ok hn (.more t t' r r' h hk ht hr)
theorem rowP_sim (hz : Shuts z) {part part' : List Tk → Option Res} {ss : List ByteArray} (hp : ∀ l l', Sm z l l' → SimO z (part l) (part' l')) (hs : hasB ss sShut = false) (k k' : Nat) (l l' : List Tk) (h : Sm z l l') : SimO z (rowP part ss k l) (rowP part' ss k' l') := by
  unfold rowP
  exact (hp l l' h).next fun n n' r r' hn hr => rowL_sim hz hp hs k k' n n' r r' hn hr
theorem prefixP_sim (hz : Shuts z) {again other again' other' : Int → List Tk → Option Res} {kind : Int} {s : ByteArray} (d d' : Int) (ha : ∀ d d' l l', Sm z l l' → SimO z (again d l) (again' d' l')) (ho : ∀ l l', Sm z l l' → SimO z (other d l) (other' d' l')) (hs : hasB [s] sShut = false) (l l' : List Tk) (h : Sm z l l') : SimO z (prefixP again other kind s d l) (prefixP again' other' kind s d' l') := by
  cases h with
  | fin t h =>
    have hF : Sm z [t] z := .fin t h
    obtain ⟨u, r, rfl, hu, hu1, hr⟩ := hz
    unfold prefixP
    dsimp only
    rw [isIt_last h, isIt_shut hu1 hs, if_neg (by simp), if_neg (by simp)]
    exact ho _ _ hF
  | more t t' r r' h hk ht hr =>
    have hF : Sm z (t :: r) (t' :: r') := .more t t' r r' h hk ht hr
    unfold prefixP
    dsimp only
    rw [isIt_alike hk ht]
    by_cases hi : isIt [s] t = true
    · rw [if_pos hi, if_pos hi]
      refine .ite ?_
      by_cases hd : d + 1 > 20
      · rw [if_pos hd]
        exact .bad z _ _ _
      · rw [if_neg hd]
        by_cases hd' : d' + 1 > 20
        · rw [if_pos hd']
          exact .deep z _ _
        · rw [if_neg hd']
          exact (ha _ _ r r' hr).next fun m m' l l' hm hl => .ok (strip1 hm) hl
    · rw [if_neg hi, if_neg hi]
      exact ho _ _ hF
theorem cmpP_sim (hz : Shuts z) {sum sum' : List Tk → Option Res} (hp : ∀ l l', Sm z l l' → SimO z (sum l) (sum' l')) (l l' : List Tk) (h : Sm z l l') : SimO z (cmpP sum l) (cmpP sum' l') := by
  unfold cmpP
  refine (hp l l' h).next fun n n' q q' hn hq => ?_
  clear h
  cases hq with
  | fin t h =>
    have hF : Sm z [t] z := .fin t h
    obtain ⟨u, r, rfl, hu, hu1, hr⟩ := hz
    dsimp only
    rw [isIt_last h, isIt_shut hu1 (by decide), if_neg (by simp), if_neg (by simp)]
    exact .ok hn hF
  | more t t' r r' h hk ht hr =>
    dsimp only
    rw [isIt_alike hk ht]
    by_cases hi : isIt cmps t = true
    · rw [if_pos hi, if_pos hi]
      refine .ite ((hp r r' hr).next fun m m' l l' hm hl => ?_)
      rw [ht]
      exact .ok (strip2 hn hm) hl
    · rw [if_neg hi, if_neg hi]
      exact .ok hn (.more t t' r r' h hk ht hr)
theorem wantP_sim {s : ByteArray} {f f' : List Tk → Option Res} (hf : ∀ r r', Sm z r r' → SimO z (f r) (f' r')) (l l' : List Tk) (h : Sm z l l') : SimO z (wantP s l f) (wantP s l' f') := by
  cases h with
  | fin t h =>
    unfold wantP
    dsimp only
    rw [isIt_last h, if_neg (by simp)]
    exact .bad z _ _ _
  | more t t' r r' h hk ht hr =>
    unfold wantP
    dsimp only
    rw [isIt_alike hk ht]
    by_cases hi : isIt [s] t = true
    · rw [if_pos hi, if_pos hi]
      exact .ite (hf r r' hr)
    · rw [if_neg hi, if_neg hi]
      exact .bad z _ _ _
theorem zoneL_sim (hz : Shuts z) {cast cast' : List Tk → Option Res} (hp : ∀ l l', Sm z l l' → SimO z (cast l) (cast' l')) : ∀ (k k' : Nat) (n n' : Nd) (l l' : List Tk), strip n = strip n' → Sm z l l' → SimO z (zoneL cast k n l) (zoneL cast' k' n' l')
  | 0, k', n, n', l, l', _, _ => .no z _
  | k + 1, 0, n, n', l, l', _, _ => .no' z _
  | k + 1, k' + 1, n, n', _, _, hn, .fin t h => by
    have hF : Sm z [t] z := .fin t h
    obtain ⟨u, r, rfl, hu, hu1, hr⟩ := hz
    unfold zoneL
    rw [isIt_last h, isIt_shut hu1 (by decide), if_neg (by simp), if_neg (by simp)]
    exact .ok hn hF
  | k + 1, k' + 1, n, n', _, _, hn, .more t t' r r' h hk ht hr => by
    unfold zoneL
    rw [isIt_alike hk ht]
    by_cases hi : isIt [sAt] t = true
    · rw [if_pos hi, if_pos hi]
      refine .ite (wantP_sim (fun r1 r1' h1 => wantP_sim (fun r2 r2' h2 => (hp r2 r2' h2).next fun m m' l l' hm hl => ?_) _ _ h1) _ _ hr)
      exact zoneL_sim hz hp k k' _ _ l l' (strip2 hn hm) hl
    · rw [if_neg hi, if_neg hi]
      exact .ok hn (.more t t' r r' h hk ht hr)
theorem zoneP_sim (hz : Shuts z) {cast cast' : List Tk → Option Res} (hp : ∀ l l', Sm z l l' → SimO z (cast l) (cast' l')) (k k' : Nat) (l l' : List Tk) (h : Sm z l l') : SimO z (zoneP cast k l) (zoneP cast' k' l') := by
  unfold zoneP
  exact (hp l l' h).next fun n n' r r' hn hr => zoneL_sim hz hp k k' n n' r r' hn hr
theorem takeP_sim {f f' : Tk → List Tk → Option Res} (h4 : ∀ t, t.f0 = 4 → ∃ w p, f t [t] = some (.bad w p)) (hf : ∀ t t' r r', t.f0 ≠ 4 → t'.f0 = t.f0 → t'.f1 = t.f1 → Sm z r r' → SimO z (f t r) (f' t' r')) (l l' : List Tk) (h : Sm z l l') : SimO z (takeP l f) (takeP l' f') := by
  cases h with
  | fin t h =>
    unfold takeP
    dsimp only
    rw [if_pos h]
    obtain ⟨w, p, e⟩ := h4 t h
    rw [e]
    exact .bad z _ _ _
  | more t t' r r' h hk ht hr =>
    unfold takeP
    dsimp only
    rw [if_neg h, if_neg (show ¬ t'.f0 = 4 by rw [hk]; exact h)]
    exact .ite (hf t t' r r' h hk ht hr)
theorem castL_sim (hz : Shuts z) : ∀ (k k' : Nat) (n n' : Nd) (l l' : List Tk), strip n = strip n' → Sm z l l' → SimO z (castL k n l) (castL k' n' l')
  | 0, k', n, n', l, l', _, _ => .no z _
  | k + 1, 0, n, n', l, l', _, _ => .no' z _
  | k + 1, k' + 1, n, n', _, _, hn, .fin t h => by
    have hF : Sm z [t] z := .fin t h
    obtain ⟨u, r, rfl, hu, hu1, hr⟩ := hz
    unfold castL
    rw [isIt_last h, isIt_shut hu1 (by decide), if_neg (by simp), if_neg (by simp)]
    exact .ok hn hF
  | k + 1, k' + 1, n, n', _, _, hn, .more t t' r r' h hk ht hr => by
    unfold castL
    rw [isIt_alike hk ht]
    by_cases hi : isIt [sCast] t = true
    · rw [if_pos hi, if_pos hi]
      refine .ite (takeP_sim (fun u hu => ⟨_, _, if_pos (Or.inl (by omega))⟩) (fun u u' r1 r1' hu huk hut h1 => ?_) _ _ hr)
      rw [huk, hut]
      by_cases hc : u.f0 ≠ 1 ∨ hasB kept8 u.f1 = true
      · rw [if_pos hc]
        exact .bad z _ _ _
      · rw [if_neg hc, if_neg hc]
        exact castL_sim hz k k' _ _ r1 r1' (strip1 hn) h1
    · rw [if_neg hi, if_neg hi]
      exact .ok hn (.more t t' r r' h hk ht hr)
theorem castP_sim (hz : Shuts z) {prim prim' : List Tk → Option Res} (hp : ∀ l l', Sm z l l' → SimO z (prim l) (prim' l')) (k k' : Nat) (l l' : List Tk) (h : Sm z l l') : SimO z (castP prim k l) (castP prim' k' l') := by
  unfold castP
  exact (hp l l' h).next fun n n' r r' hn hr => castL_sim hz k k' n n' r r' hn hr
theorem argsL_sim {part part' : List Tk → Option Res} (hp : ∀ l l', Sm z l l' → SimO z (part l) (part' l')) {f f' : List Nd → List Tk → Option Res} (hf : ∀ ns ns' r r', strips ns = strips ns' → Sm z r r' → SimO z (f ns r) (f' ns' r')) : ∀ (k k' : Nat) (ns ns' : List Nd) (l l' : List Tk), strips ns = strips ns' → Sm z l l' → SimO z (argsL part k ns l f) (argsL part' k' ns' l' f')
  | 0, k', n, n', l, l', _, _ => .no z _
  | k + 1, 0, n, n', l, l', _, _ => .no' z _
  | k + 1, k' + 1, n, n', _, _, hn, .fin t h => by
    unfold argsL
    rw [isIt_last h, if_neg (by simp)]
    unfold wantP
    dsimp only
    rw [isIt_last h, if_neg (by simp)]
    exact .bad z _ _ _
  | k + 1, k' + 1, n, n', _, _, hn, .more t t' r r' h hk ht hr => by
    unfold argsL
    rw [isIt_alike hk ht]
    by_cases hi : isIt [sComma] t = true
    · rw [if_pos hi, if_pos hi]
      refine .ite ((hp r r' hr).next fun m m' l l' hm hl => ?_)
      exact argsL_sim hp hf k k' _ _ l l' (strips_snoc hn hm) hl
    · rw [if_neg hi, if_neg hi]
      exact wantP_sim (fun r r' hr => hf _ _ r r' hn hr) _ _ (.more t t' r r' h hk ht hr)
theorem argsP_sim {part part' : List Tk → Option Res} (hl4 : ∀ t, t.f0 = 4 → ∀ x, part [t] = some x → ∃ w p, x = .bad w p) (hp : ∀ l l', Sm z l l' → SimO z (part l) (part' l')) {f f' : List Nd → List Tk → Option Res} (hf : ∀ ns ns' r r', strips ns = strips ns' → Sm z r r' → SimO z (f ns r) (f' ns' r')) (k k' : Nat) (l l' : List Tk) (h : Sm z l l') : SimO z (argsP part k l f) (argsP part' k' l' f') := by
  cases h with
  | fin t h =>
    unfold argsP
    dsimp only
    rw [isIt_last h, if_neg (by simp)]
    intro x y hx hy
    cases hq : part [t] with
    | none => rw [hq] at hx; cases hx
    | some q =>
      obtain ⟨w, p, rfl⟩ := hl4 t h q hq
      rw [hq] at hx
      cases hx
      trivial
  | more t t' r r' h hk ht hr =>
    have hF : Sm z (t :: r) (t' :: r') := .more t t' r r' h hk ht hr
    unfold argsP
    dsimp only
    rw [isIt_alike hk ht]
    by_cases hi : isIt [sShut] t = true
    · rw [if_pos hi, if_pos hi]
      exact .ite (hf _ _ r r' rfl hr)
    · rw [if_neg hi, if_neg hi]
      exact (hp _ _ hF).next fun m m' l l' hm hl => argsL_sim hp hf k k' _ _ l l' (by simp only [strips, hm]) hl
theorem namedP_sim {or or' : Int → List Tk → Option Res} (hl4 : ∀ d t, t.f0 = 4 → ∀ x, or d [t] = some x → ∃ w p, x = .bad w p) (hp : ∀ d d' l l', Sm z l l' → SimO z (or d l) (or' d' l')) (k k' : Nat) (d d' : Int) (t t' : Tk) (ht : t'.f1 = t.f1) (l l' : List Tk) (h : Sm z l l') : SimO z (namedP or k d t l) (namedP or' k' d' t' l') := by
  have hw : SimO z (wantP sOpen l fun l => if d + 1 > 20 then some (.bad 31 t.f2) else argsP (or (d + 1)) k l fun ns l => some (.ok ⟨9, t.f1, ns, t.f2⟩ l)) (wantP sOpen l' fun l => if d' + 1 > 20 then some (.bad 31 t'.f2) else argsP (or' (d' + 1)) k' l fun ns l => some (.ok ⟨9, t'.f1, ns, t'.f2⟩ l)) := by
    refine wantP_sim (fun r r' hr => ?_) l l' h
    by_cases hd : d + 1 > 20
    · rw [if_pos hd]
      exact .bad z _ _ _
    · rw [if_neg hd]
      by_cases hd' : d' + 1 > 20
      · rw [if_pos hd']
        exact .deep z _ _
      · rw [if_neg hd']
        exact argsP_sim (hl4 _) (hp _ _) (fun ns ns' r r' hn hr => .ok (by simp only [strip, hn, ht]) hr) k k' r r' hr
  cases h with
  | fin u h =>
    unfold namedP
    dsimp only
    rw [if_neg (by omega)]
    unfold wantP
    dsimp only
    rw [isIt_last h, if_neg (by simp)]
    exact .bad z _ _ _
  | more u u' r r' h hk hu hr =>
    unfold namedP
    dsimp only
    rw [hk, ht]
    by_cases hc : u.f0 = 2 ∧ hasB types4 t.f1 = true
    · rw [if_pos hc, if_pos hc]
      exact .ite (.ok (by rw [hu]; exact strip1 strip0) hr)
    · rw [if_neg hc, if_neg hc]
      rw [ht] at hw
      exact hw
theorem primP_sim {or or' : Int → List Tk → Option Res} (hl4 : ∀ d t, t.f0 = 4 → ∀ x, or d [t] = some x → ∃ w p, x = .bad w p) (hp : ∀ d d' l l', Sm z l l' → SimO z (or d l) (or' d' l')) (k k' : Nat) (d d' : Int) (l l' : List Tk) (h : Sm z l l') : SimO z (primP or k d l) (primP or' k' d' l') := by
  unfold primP
  refine takeP_sim (fun t ht => ⟨30, t.f2, ?_⟩) (fun t t' r r' h4 hk ht hr => ?_) l l' h
  · rw [if_neg (by omega), if_neg (by omega), if_neg (by omega), if_neg (by omega), if_neg (by omega)]
  · rw [hk, ht]
    by_cases c0 : t.f0 = 0
    · rw [if_pos c0, if_pos c0]
      exact .ok strip0 hr
    rw [if_neg c0, if_neg c0]
    by_cases c1 : t.f0 = 2
    · rw [if_pos c1, if_pos c1]
      exact .ok strip0 hr
    rw [if_neg c1, if_neg c1]
    by_cases c2 : t.f0 = 3 ∧ t.f1 = sOpen
    · rw [if_pos c2, if_pos c2]
      by_cases hd : d + 1 > 20
      · rw [if_pos hd]
        exact .bad z _ _ _
      rw [if_neg hd]
      by_cases hd' : d' + 1 > 20
      · rw [if_pos hd']
        exact .deep z _ _
      rw [if_neg hd']
      exact (hp _ _ r r' hr).next fun m m' l l' hm hl => wantP_sim (fun r r' hr => .ok hm hr) l l' hl
    rw [if_neg c2, if_neg c2]
    by_cases c3 : t.f0 = 1 ∧ (t.f1 = sTrue ∨ t.f1 = sFalse)
    · rw [if_pos c3, if_pos c3]
      exact .ok strip0 hr
    rw [if_neg c3, if_neg c3]
    by_cases c4 : t.f0 = 1 ∧ hasB kept8 t.f1 = false
    · rw [if_pos c4, if_pos c4]
      exact namedP_sim hl4 hp k k' d d' t t' ht r r' hr
    · rw [if_neg c4]
      exact .bad z _ _ _
theorem parse_last : ∀ (k lev : Nat) (d : Int) (t : Tk), t.f0 = 4 → ∀ x, parse k lev d [t] = some x → ∃ w p, x = .bad w p := by
  intro k
  induction k with
  | zero => intro lev d t _ x hx; cases hx
  | succ k ih =>
    intro lev d t h x hx
    have hrow : ∀ {part : List Tk → Option Res} {f : Nd → List Tk → Option Res}, (∀ x, part [t] = some x → ∃ w p, x = .bad w p) → ((part [t]).bind fun n => n.then f) = some x → ∃ w p, x = .bad w p := by
      intro part f hp e
      cases hq : part [t] with
      | none => rw [hq] at e; cases e
      | some q =>
        obtain ⟨w, p, rfl⟩ := hp q hq
        rw [hq] at e
        exact ⟨w, p, by cases e; rfl⟩
    match lev, hx with
    | 0, hx => exact hrow (ih 1 d t h) hx
    | 1, hx => exact hrow (ih 2 d t h) hx
    | 2, hx =>
      have hx' : prefixP (parse k 2) (parse k 3) 7 sNot d [t] = some x := hx
      unfold prefixP at hx'
      dsimp only at hx'
      rw [isIt_last h, if_neg (by simp)] at hx'
      exact ih 3 d t h x hx'
    | 3, hx => exact hrow (ih 4 d t h) hx
    | 4, hx => exact hrow (ih 5 d t h) hx
    | 5, hx => exact hrow (ih 6 d t h) hx
    | 6, hx =>
      have hx' : prefixP (parse k 6) (parse k 7) 6 sMinus d [t] = some x := hx
      unfold prefixP at hx'
      dsimp only at hx'
      rw [isIt_last h, if_neg (by simp)] at hx'
      exact ih 7 d t h x hx'
    | 7, hx => exact hrow (ih 8 d t h) hx
    | 8, hx => exact hrow (ih 9 d t h) hx
    | lev + 9, hx =>
      have hx' : primP (parse k 0) k d [t] = some x := hx
      unfold primP takeP at hx'
      dsimp only at hx'
      rw [if_pos h, if_neg (by omega), if_neg (by omega), if_neg (by omega), if_neg (by omega), if_neg (by omega)] at hx'
      cases hx'
      exact ⟨_, _, rfl⟩
theorem parse_sim (hz : Shuts z) : ∀ (k k' lev : Nat) (d d' : Int) (l l' : List Tk), Sm z l l' → SimO z (parse k lev d l) (parse k' lev d' l') := by
  intro k
  induction k with
  | zero => intro k' lev d d' l l' _; exact .no z _
  | succ k ih =>
    intro k' lev d d' l l' h
    cases k' with
    | zero => exact .no' z _
    | succ k' =>
      match lev with
      | 0 => exact rowP_sim hz (fun l l' h => ih k' 1 d d' l l' h) (by decide) k k' l l' h
      | 1 => exact rowP_sim hz (fun l l' h => ih k' 2 d d' l l' h) (by decide) k k' l l' h
      | 2 => exact prefixP_sim hz d d' (fun d d' l l' h => ih k' 2 d d' l l' h) (fun l l' h => ih k' 3 d d' l l' h) (by decide) l l' h
      | 3 => exact cmpP_sim hz (fun l l' h => ih k' 4 d d' l l' h) l l' h
      | 4 => exact rowP_sim hz (fun l l' h => ih k' 5 d d' l l' h) (by decide) k k' l l' h
      | 5 => exact rowP_sim hz (fun l l' h => ih k' 6 d d' l l' h) (by decide) k k' l l' h
      | 6 => exact prefixP_sim hz d d' (fun d d' l l' h => ih k' 6 d d' l l' h) (fun l l' h => ih k' 7 d d' l l' h) (by decide) l l' h
      | 7 => exact zoneP_sim hz (fun l l' h => ih k' 8 d d' l l' h) k k' l l' h
      | 8 => exact castP_sim hz (fun l l' h => ih k' 9 d d' l l' h) k k' l l' h
      | lev + 9 => exact primP_sim (fun d t h => parse_last k 0 d t h) (fun d d' l l' h => ih k' 0 d d' l l' h) k k' d d' l l' h
end
end Go.Proofs.YtnjoncbgekonbaaDoor.PExpr
end
section
namespace Go.Proofs.YtnjoncbgekonbaaDoor.PExpr
open Go.RowKit Go.Proofs.YtnjoncbgekonbaaDoorW.PrintWords Go.Proofs.YtnjoncbgekonbaaDoorW.PrintLast Go.Proofs.YtnjoncbgekonbaaDoorW.PrintMore
set_option linter.unusedVariables false
set_option linter.unusedSimpArgs false
def Stays (rs : List (List ByteArray)) (u : Tk) : Prop := ∀ ss, ss ∈ rs → isIt ss u = false
theorem stays_last {u : Tk} (h : u.f0 = 4) (rs : List (List ByteArray)) : Stays rs u := fun ss _ => isIt_last h
theorem isIt_open (ss : List ByteArray) (t : Tk) (h1 : t.f1 = sOpen) (hs : hasB ss sOpen = false) : isIt ss t = false := by
  unfold isIt
  rw [h1, hs, Bool.and_false]
theorem row_one {part : List Tk → Option Res} {ss : List ByteArray} {k : Nat} {l r : List Tk} {u : Tk} {n : Nd} (hp : part l = some (.ok n (u :: r))) (hi : isIt ss u = false) : rowP part ss (k + 1) l = some (.ok n (u :: r)) := by
  unfold rowP
  rw [hp]
  show rowL part ss (k + 1) n (u :: r) = _
  unfold rowL
  rw [if_neg (by rw [hi]; simp)]
theorem cmp_one {sum : List Tk → Option Res} {l r : List Tk} {u : Tk} {n : Nd} (hp : sum l = some (.ok n (u :: r))) (hi : isIt cmps u = false) : cmpP sum l = some (.ok n (u :: r)) := by
  unfold cmpP
  rw [hp]
  show (if isIt cmps u = true then _ else _) = _
  rw [if_neg (by rw [hi]; simp)]
theorem zone_one {cast : List Tk → Option Res} {k : Nat} {l r : List Tk} {u : Tk} {n : Nd} (hp : cast l = some (.ok n (u :: r))) (hi : isIt [sAt] u = false) : zoneP cast (k + 1) l = some (.ok n (u :: r)) := by
  unfold zoneP
  rw [hp]
  show zoneL cast (k + 1) n (u :: r) = _
  unfold zoneL
  rw [if_neg (by rw [hi]; simp)]
theorem cast_one {prim : List Tk → Option Res} {k : Nat} {l r : List Tk} {u : Tk} {n : Nd} (hp : prim l = some (.ok n (u :: r))) (hi : isIt [sCast] u = false) : castP prim (k + 1) l = some (.ok n (u :: r)) := by
  unfold castP
  rw [hp]
  show castL (k + 1) n (u :: r) = _
  unfold castL
  rw [if_neg (by rw [hi]; simp)]
theorem pre_one {again other : Int → List Tk → Option Res} {kind : Int} {s : ByteArray} {d : Int} {t : Tk} {l : List Tk} (hi : isIt [s] t = false) : prefixP again other kind s d (t :: l) = other d (t :: l) := by
  unfold prefixP
  dsimp only
  rw [if_neg (by rw [hi]; simp)]
theorem prim_open {k : Nat} {d : Int} {t : Tk} {l : List Tk} (ht : t.f0 = 3) (h1 : t.f1 = sOpen) (hl : l ≠ []) (hd : d + 1 ≤ 20) {n : Nd} {u : Tk} {r : List Tk} (hu : u.f0 = 3) (hu1 : u.f1 = sShut) (hr : r ≠ []) (h : parse k 0 (d + 1) l = some (.ok n (u :: r))) : parse (k + 1) 9 d (t :: l) = some (.ok n r) := by
  show primP (parse k 0) k d (t :: l) = _
  unfold primP takeP
  dsimp only
  have hl' : ¬ l.isEmpty = true := by simpa using hl
  have hr' : ¬ r.isEmpty = true := by simpa using hr
  rw [if_neg (by omega), if_neg hl', if_neg (by omega), if_neg (by omega), if_pos ⟨ht, h1⟩, if_neg (by omega), h]
  show wantP sShut (u :: r) (fun l => some (.ok n l)) = _
  unfold wantP
  dsimp only
  have hi : isIt [sShut] u = true := by
    unfold isIt
    rw [hu, hu1]
    rfl
  rw [if_pos hi, if_neg hr']
theorem open_bad {k : Nat} {d : Int} {t : Tk} {l : List Tk} (ht : t.f0 = 3) (h1 : t.f1 = sOpen) (hl : l ≠ []) {w p : Int} (h : d + 1 ≤ 20 → parse k 0 (d + 1) l = some (.bad w p)) : ∃ w', (w' = w ∨ w' = 31) ∧ ∃ p', parse (k + 1) 9 d (t :: l) = some (.bad w' p') := by
  show ∃ w', _ ∧ ∃ p', primP (parse k 0) k d (t :: l) = _
  unfold primP takeP
  dsimp only
  have hl' : ¬ l.isEmpty = true := by simpa using hl
  rw [if_neg (by omega), if_neg hl', if_neg (by omega), if_neg (by omega), if_pos ⟨ht, h1⟩]
  by_cases hd : d + 1 > 20
  · rw [if_pos hd]
    exact ⟨31, .inr rfl, _, rfl⟩
  · rw [if_neg hd, h (by omega)]
    exact ⟨w, .inl rfl, _, rfl⟩
theorem up5 {k : Nat} {d : Int} {t : Tk} {l : List Tk} (h1 : t.f1 = sOpen) {n : Nd} {u : Tk} {r : List Tk} (h : parse (k + 1) 9 d (t :: l) = some (.ok n (u :: r))) (hs : Stays [[sStar, sSlash, sPer], [sAt], [sCast]] u) : parse (k + 5) 5 d (t :: l) = some (.ok n (u :: r)) := by
  have e8 : parse (k + 2) 8 d (t :: l) = some (.ok n (u :: r)) := cast_one h (hs _ (by simp))
  have e7 : parse (k + 3) 7 d (t :: l) = some (.ok n (u :: r)) := zone_one e8 (hs _ (by simp))
  have e6 : parse (k + 4) 6 d (t :: l) = some (.ok n (u :: r)) := (pre_one (isIt_open _ t h1 (by decide))).trans e7
  exact row_one e6 (hs _ (by simp))
theorem bind_bad {f : Nd → List Tk → Option Res} {a : Option Res} {w p : Int} (h : a = some (.bad w p)) : (a.bind fun n => n.then f) = some (.bad w p) := by
  rw [h]
  rfl
theorem bad5 {k : Nat} {d : Int} {t : Tk} {l : List Tk} (h1 : t.f1 = sOpen) {w p : Int} (h : parse (k + 1) 9 d (t :: l) = some (.bad w p)) : parse (k + 5) 5 d (t :: l) = some (.bad w p) := by
  have e8 : parse (k + 2) 8 d (t :: l) = some (.bad w p) := bind_bad h
  have e7 : parse (k + 3) 7 d (t :: l) = some (.bad w p) := bind_bad e8
  have e6 : parse (k + 4) 6 d (t :: l) = some (.bad w p) := (pre_one (isIt_open _ t h1 (by decide))).trans e7
  exact bind_bad e6
theorem up0 {k : Nat} {d : Int} {t : Tk} {l : List Tk} (h1 : t.f1 = sOpen) {n : Nd} {u : Tk} {r : List Tk} (h : parse (k + 1) 4 d (t :: l) = some (.ok n (u :: r))) (hs : Stays [[sOr], [sAnd], cmps] u) : parse (k + 5) 0 d (t :: l) = some (.ok n (u :: r)) := by
  have e3 : parse (k + 2) 3 d (t :: l) = some (.ok n (u :: r)) := cmp_one h (hs _ (by simp))
  have e2 : parse (k + 3) 2 d (t :: l) = some (.ok n (u :: r)) := (pre_one (isIt_open _ t h1 (by decide))).trans e3
  have e1 : parse (k + 4) 1 d (t :: l) = some (.ok n (u :: r)) := row_one e2 (hs _ (by simp))
  exact row_one e1 (hs _ (by simp))
theorem bad0 {k : Nat} {d : Int} {t : Tk} {l : List Tk} (h1 : t.f1 = sOpen) {w p : Int} (h : parse (k + 1) 4 d (t :: l) = some (.bad w p)) : parse (k + 5) 0 d (t :: l) = some (.bad w p) := by
  have e3 : parse (k + 2) 3 d (t :: l) = some (.bad w p) := bind_bad h
  have e2 : parse (k + 3) 2 d (t :: l) = some (.bad w p) := (pre_one (isIt_open _ t h1 (by decide))).trans e3
  have e1 : parse (k + 4) 1 d (t :: l) = some (.bad w p) := bind_bad e2
  exact bind_bad e1
theorem brackets {l l' z : List Tk} {n : Nd} {e : Tk} {k k' : Nat} {d : Int} {t u : Tk} {r : List Tk} (ht : t.f0 = 3) (h1 : t.f1 = sOpen) (hz : z = u :: r) (hu : u.f0 = 3) (hu1 : u.f1 = sShut) (hr : r ≠ []) (hl : Sm z l l') (ho : parse k 0 0 l = some (.ok n [e])) (he : e.f0 = 4) {x : Res} (hx : parse k' 0 (d + 1) l' = some x) :
    (∃ n', strip n' = strip n ∧ parse (k' + 1) 9 d (t :: l') = some (.ok n' r)) ∨ ∃ p, parse (k' + 1) 9 d (t :: l') = some (.bad 31 p) := by
  have hne : l' ≠ [] := by
    cases hl with
    | fin => rw [hz]; simp
    | more => simp
  have q := parse_sim ⟨u, r, hz, hu, hu1, hr⟩ k k' 0 0 (d + 1) l l' hl _ _ ho hx
  cases x with
  | bad w p =>
    have q' : w = 31 := q
    subst q'
    obtain ⟨w', hw, p', e'⟩ := open_bad (k := k') (d := d) ht h1 hne (fun _ => hx)
    have : w' = 31 := by omega
    subst this
    exact .inr ⟨p', e'⟩
  | ok n' r' =>
    obtain ⟨q1, q2⟩ := q
    by_cases hd : d + 1 ≤ 20
    · cases q2 with
      | fin _ _ => 
        subst hz
        exact .inl ⟨n', q1.symm, prim_open ht h1 hne hd hu hu1 hr hx⟩
      | more _ _ _ _ h4 => exact absurd he h4
    · obtain ⟨w', hw, p', e'⟩ := open_bad (k := k') (d := d) (w := 31) (p := 0) ht h1 hne (fun h => absurd h hd)
      have : w' = 31 := by omega
      subst this
      exact .inr ⟨p', e'⟩
theorem whole_brackets {l l' : List Tk} {n : Nd} {e e' : Tk} {k k' : Nat} {t u : Tk} (ht : t.f0 = 3) (h1 : t.f1 = sOpen) (hu : u.f0 = 3) (hu1 : u.f1 = sShut) (he' : e'.f0 = 4) (hl : Sm [u, e'] l l') (ho : parse k 0 0 l = some (.ok n [e])) (he : e.f0 = 4) (hx : ∃ x, parse k' 0 1 l' = some x) :
    (∃ n', strip n' = strip n ∧ parse (k' + 10) 0 0 (t :: l') = some (.ok n' [e'])) ∨ ∃ p, parse (k' + 10) 0 0 (t :: l') = some (.bad 31 p) := by
  obtain ⟨x, hx⟩ := hx
  rcases brackets (d := 0) (k' := k') ht h1 rfl hu hu1 (by simp) hl ho he hx with ⟨n', hn, q⟩ | ⟨p, q⟩
  · have e4 : parse (k' + 6) 4 0 (t :: l') = some (.ok n' [e']) := row_one (up5 h1 q (stays_last he' _)) (isIt_last he')
    exact .inl ⟨n', hn, up0 (k := k' + 5) h1 e4 (stays_last he' _)⟩
  · have e4 : parse (k' + 6) 4 0 (t :: l') = some (.bad 31 p) := bind_bad (bad5 h1 q)
    exact .inr ⟨p, bad0 (k := k' + 5) h1 e4⟩
theorem shut_plus {u : Tk} (hu1 : u.f1 = sPlus) : Stays [[sStar, sSlash, sPer], [sAt], [sCast]] u := by
  intro ss hs
  unfold isIt
  rw [hu1]
  simp only [List.mem_cons, List.not_mem_nil, or_false] at hs
  rcases hs with rfl | rfl | rfl
  · rw [show hasB [sStar, sSlash, sPer] sPlus = false by decide, Bool.and_false]
  · rw [show hasB [sAt] sPlus = false by decide, Bool.and_false]
  · rw [show hasB [sCast] sPlus = false by decide, Bool.and_false]
theorem whole_sum {l l' m m' : List Tk} {n y : Nd} {e e' f : Tk} {k k1 k' : Nat} {t u p t2 u2 : Tk} (ht : t.f0 = 3) (h1 : t.f1 = sOpen) (hu : u.f0 = 3) (hu1 : u.f1 = sShut) (hp : p.f0 = 3) (hp1 : p.f1 = sPlus) (ht2 : t2.f0 = 3) (h21 : t2.f1 = sOpen) (hu2 : u2.f0 = 3) (hu21 : u2.f1 = sShut) (he' : e'.f0 = 4)
    (hl : Sm (u :: p :: t2 :: m') l l') (hm : Sm [u2, e'] m m') (ho : parse k 0 0 l = some (.ok n [e])) (he : e.f0 = 4) (ho2 : parse k1 0 0 m = some (.ok y [f])) (hf : f.f0 = 4) (hx : ∃ x, parse k' 0 1 l' = some x) (hx2 : ∃ x, parse k' 0 1 m' = some x) :
    (∃ n' y', strip n' = strip n ∧ strip y' = strip y ∧ parse (k' + 10) 0 0 (t :: l') = some (.ok ⟨8, sPlus, [n', y'], p.f2⟩ [e'])) ∨ ∃ q, parse (k' + 10) 0 0 (t :: l') = some (.bad 31 q) := by
  obtain ⟨x, hx⟩ := hx
  obtain ⟨x2, hx2⟩ := hx2
  have hip : isIt [sPlus, sMinus] p = true := by
    unfold isIt
    rw [hp, hp1]
    rfl
  rcases brackets (d := 0) (k' := k') ht h1 rfl hu hu1 (by simp) hl ho he hx with ⟨n', hn, q⟩ | ⟨w, q⟩
  · have a5 := up5 h1 q (shut_plus hp1)
    have e4 : parse (k' + 6) 4 0 (t :: l') = ((parse (k' + 5) 5 0 (t2 :: m')).bind fun m => m.then fun m l => rowL (parse (k' + 5) 5 0) [sPlus, sMinus] (k' + 4) ⟨8, p.f1, [n', m], p.f2⟩ l) := by
      show rowP (parse (k' + 5) 5 0) [sPlus, sMinus] (k' + 5) (t :: l') = _
      unfold rowP
      rw [a5]
      show rowL (parse (k' + 5) 5 0) [sPlus, sMinus] (k' + 4 + 1) n' (p :: t2 :: m') = _
      rw [rowL, if_pos hip, if_neg (by simp)]
    rcases brackets (d := 0) (k' := k') ht2 h21 rfl hu2 hu21 (by simp) hm ho2 hf hx2 with ⟨y', hy, q2⟩ | ⟨w, q2⟩
    · have b5 := up5 h21 q2 (stays_last he' _)
      rw [b5] at e4
      have e4' : parse (k' + 6) 4 0 (t :: l') = some (.ok ⟨8, sPlus, [n', y'], p.f2⟩ [e']) := by
        rw [e4]
        show rowL (parse (k' + 5) 5 0) [sPlus, sMinus] (k' + 3 + 1) _ [e'] = _
        rw [rowL, if_neg (by rw [isIt_last he']; simp), hp1]
      exact .inl ⟨n', y', hn, hy, up0 (k := k' + 5) h1 e4' (stays_last he' _)⟩
    · have b5 := bad5 h21 q2
      rw [b5] at e4
      exact .inr ⟨w, bad0 (k := k' + 5) h1 e4⟩
  · have e4 : parse (k' + 6) 4 0 (t :: l') = some (.bad 31 w) := bind_bad (bad5 h1 q)
    exact .inr ⟨w, bad0 (k := k' + 5) h1 e4⟩
end Go.Proofs.YtnjoncbgekonbaaDoor.PExpr
end
section
namespace Go.Proofs.YtnjoncbgekonbaaDoor.PExpr
open Go.RowKit Go.Proofs.YtnjoncbgekonbaaDoorW.PrintWords Go.Proofs.YtnjoncbgekonbaaDoorW.PrintLast Go.Proofs.YtnjoncbgekonbaaDoorW.PrintMore
set_option linter.unusedVariables false
set_option linter.unusedSimpArgs false
abbrev RN := S32
mutual
/-- A node as the reference has it. -/
def cvN : Nd → RN
  | ⟨k, t, l, p⟩ => ⟨k, t, cvs l, p⟩
def cvs : List Nd → List RN
  | [] => []
  | n :: l => cvN n :: cvs l
end
theorem cvs_map : ∀ l, cvs l = l.map cvN
  | [] => rfl
  | n :: l => by
    rw [List.map_cons, ← cvs_map l]
    rfl
theorem cvN_eq (n : Nd) : cvN n = ⟨n.f0, n.f1, n.f2.map cvN, n.f3⟩ := by
  rw [← cvs_map]
  cases n
  rfl
theorem strips_map : ∀ l, strips l = l.map strip
  | [] => rfl
  | n :: l => by
    rw [List.map_cons, ← strips_map l]
    rfl
theorem strip_eq (n : Nd) : strip n = ⟨n.f0, n.f1, n.f2.map strip, 0⟩ := by
  rw [← strips_map]
  cases n
  rfl
inductive Slim : Nd → Prop
  | mk (n : Nd) (hl : n.f2.length ≤ 6000) (hk : ∀ m, m ∈ n.f2 → Slim m) : Slim n
theorem NdIn.slim {len : Int} {n : Nd} (h : NdIn len n) : Slim n := by
  induction h with
  | mk n h0 h1 hl hk ih => exact .mk n hl ih
theorem wr1 (i : Nat) (h : i ≤ 100000) : wrap64 ((i : Int) + 1) = ((i + 1 : Nat) : Int) := by
  unfold wrap64
  omega
theorem rd24_at (l : List Nd) (i : Nat) (h : i < l.length) : rd_T24 l (i : Int) = l[i] := by
  unfold rd_T24
  rw [Int.toNat_natCast, List.getD_eq_getElem?_getD, List.getElem?_eq_getElem h]
  rfl
theorem rd32_at (l : List RN) (i : Nat) (h : i < l.length) : rd_T32 l (i : Int) = l[i] := by
  unfold rd_T32
  rw [Int.toNat_natCast, List.getD_eq_getElem?_getD, List.getElem?_eq_getElem h]
  rfl
theorem taken_loop (n : Nd) (hl : n.f2.length ≤ 6000) (ih : ∀ m, m ∈ n.f2 → Ev (fun k => computuslaw22_taken.f k m.f0 m.f1 m.f2 m.f3) (m.f0, m.f1, m.f2.map cvN, m.f3)) : ∀ (d i : Nat), i + d = n.f2.length → Ev (fun k => computuslaw22_taken.l0 k (i : Int) n.f0 n.f1 n.f2 n.f3 n.f0 n.f1 ((n.f2.take i).map cvN) n.f3) (n.f0, n.f1, n.f2.map cvN, n.f3)
  | 0, i, h => by
    refine Ev.step (f := fun _ => some (n.f0, n.f1, n.f2.map cvN, n.f3)) (fun k => ?_) (Ev.now _)
    rw [computuslaw22_taken.l0, if_neg (by omega), List.take_of_length_le (by omega)]
  | d + 1, i, h => by
    have hi : i < n.f2.length := by omega
    refine Ev.step (f := fun k => (computuslaw22_taken.f k n.f2[i].f0 n.f2[i].f1 n.f2[i].f2 n.f2[i].f3).bind fun b => computuslaw22_taken.l0 k ((i + 1 : Nat) : Int) n.f0 n.f1 n.f2 n.f3 n.f0 n.f1 ((n.f2.take i).map cvN ++ [⟨b.1, b.2.1, b.2.2.1, b.2.2.2⟩]) n.f3) (fun k => ?_) (Ev.bind (ih _ (List.getElem_mem hi)) ?_)
    · rw [computuslaw22_taken.l0, if_pos (by omega), if_pos (by omega), rd24_at _ _ hi, wr1 i (by omega)]
      congr 1
      funext b
      rw [if_pos (by rw [List.length_map, List.length_take]; omega)]
    · have e : (n.f2.take i).map cvN ++ [⟨n.f2[i].f0, n.f2[i].f1, n.f2[i].f2.map cvN, n.f2[i].f3⟩] = (n.f2.take (i + 1)).map cvN := by
        rw [← cvN_eq, List.take_succ_eq_append_getElem hi, List.map_append]
        rfl
      show Ev (fun k => computuslaw22_taken.l0 k ((i + 1 : Nat) : Int) n.f0 n.f1 n.f2 n.f3 n.f0 n.f1 ((n.f2.take i).map cvN ++ [⟨n.f2[i].f0, n.f2[i].f1, n.f2[i].f2.map cvN, n.f2[i].f3⟩]) n.f3) _
      rw [e]
      exact taken_loop n hl ih d (i + 1) (by omega)
theorem taken_ev {n : Nd} (h : Slim n) : Ev (fun k => computuslaw22_taken.f k n.f0 n.f1 n.f2 n.f3) (n.f0, n.f1, n.f2.map cvN, n.f3) := by
  induction h with
  | mk n hl hk ih =>
    refine Ev.step (f := fun k => computuslaw22_taken.l0 k 0 n.f0 n.f1 n.f2 n.f3 n.f0 n.f1 [] n.f3) (fun k => by rw [computuslaw22_taken.f]) ?_
    exact taken_loop n hl ih n.f2.length 0 (by omega)
inductive Eqv (p : Bool) : RN → RN → Prop
  | mk (a b : RN) (h0 : a.f0 = b.f0) (h1 : a.f1 = b.f1) (h3 : p = true → a.f3 = b.f3) (hl : a.f2.length = b.f2.length) (hs : a.f2.length ≤ 6000) (hk : ∀ (i : Nat) (h : i < a.f2.length) (h' : i < b.f2.length), Eqv p a.f2[i] b.f2[i]) : Eqv p a b
theorem same_loop (p : Bool) (a b : RN) (hl : a.f2.length = b.f2.length) (hs : a.f2.length ≤ 6000) (ih : ∀ (i : Nat) (h : i < a.f2.length) (h' : i < b.f2.length), Ev (fun k => computusref22_Same.f k a.f2[i].f0 a.f2[i].f1 a.f2[i].f2 a.f2[i].f3 b.f2[i].f0 b.f2[i].f1 b.f2[i].f2 b.f2[i].f3 p) true) : ∀ (d i : Nat), i + d = a.f2.length → Ev (fun k => computusref22_Same.l0 k p (i : Int) a.f0 a.f1 a.f2 a.f3 b.f0 b.f1 b.f2 b.f3) true
  | 0, i, h => by
    refine Ev.step (f := fun _ => some true) (fun k => ?_) (Ev.now _)
    rw [computusref22_Same.l0, if_neg (by omega)]
  | d + 1, i, h => by
    have hi : i < a.f2.length := by omega
    refine Ev.step (f := fun k => (computusref22_Same.f k a.f2[i].f0 a.f2[i].f1 a.f2[i].f2 a.f2[i].f3 b.f2[i].f0 b.f2[i].f1 b.f2[i].f2 b.f2[i].f3 p).bind fun t => if t = true then computusref22_Same.l0 k p ((i + 1 : Nat) : Int) a.f0 a.f1 a.f2 a.f3 b.f0 b.f1 b.f2 b.f3 else some false) (fun k => ?_) (Ev.bind (ih i hi (by omega)) ?_)
    · rw [computusref22_Same.l0, if_pos (by omega), if_pos (by omega), if_pos (by omega), rd32_at _ _ hi, rd32_at _ _ (by omega), wr1 i (by omega)]
    · refine Ev.congr (f := fun k => computusref22_Same.l0 k p ((i + 1 : Nat) : Int) a.f0 a.f1 a.f2 a.f3 b.f0 b.f1 b.f2 b.f3) (fun k => if_pos rfl) ?_
      exact same_loop p a b hl hs ih d (i + 1) (by omega)
theorem same_ev {p : Bool} {a b : RN} (h : Eqv p a b) : Ev (fun k => computusref22_Same.f k a.f0 a.f1 a.f2 a.f3 b.f0 b.f1 b.f2 b.f3 p) true := by
  induction h with
  | mk a b h0 h1 h3 hl hs hk ih =>
    refine Ev.step (f := fun k => computusref22_Same.j0 k p false a.f0 a.f1 a.f2 a.f3 b.f0 b.f1 b.f2 b.f3) (fun k => ?_) (Ev.step (f := fun k => computusref22_Same.l0 k p 0 a.f0 a.f1 a.f2 a.f3 b.f0 b.f1 b.f2 b.f3) (fun k => by rw [computusref22_Same.j0, if_neg (by decide)]) (same_loop p a b hl hs ih a.f2.length 0 (by omega)))
    rw [computusref22_Same.f, if_pos h0, if_pos (by rw [h1]), if_pos (by omega)]
    by_cases hp : p = true
    · rw [if_pos hp, show (a.f3 != b.f3) = false by rw [h3 hp]; simp]
    · rw [if_neg hp]
theorem eqv_strip {a : Nd} (h : Slim a) : ∀ b, strip a = strip b → Eqv false (cvN a) (cvN b) := by
  induction h with
  | mk a hl hk ih =>
    intro b e
    rw [strip_eq a, strip_eq b] at e
    injection e with e0 e1 e2 _
    rw [cvN_eq a, cvN_eq b]
    have hlen : a.f2.length = b.f2.length := by
      have := congrArg List.length e2
      simpa using this
    refine .mk _ _ e0 e1 (fun h => by cases h) (by simpa using hlen) (by simpa using hl) (fun i h h' => ?_)
    have hi : i < a.f2.length := by simpa using h
    have hi' : i < b.f2.length := by simpa using h'
    have es : strip a.f2[i] = strip b.f2[i] := by
      have q : (a.f2.map strip)[i]? = (b.f2.map strip)[i]? := by rw [e2]
      rw [List.getElem?_map, List.getElem?_map, List.getElem?_eq_getElem hi, List.getElem?_eq_getElem hi'] at q
      exact Option.some.inj q
    have := ih _ (List.getElem_mem hi) _ es
    show Eqv false (a.f2.map cvN)[i] (b.f2.map cvN)[i]
    rw [List.getElem_map, List.getElem_map]
    exact this
theorem same_cv {p : Bool} {a b : Nd} (h : Eqv p (cvN a) (cvN b)) : Ev (fun k => computusref22_Same.f k a.f0 a.f1 (a.f2.map cvN) a.f3 b.f0 b.f1 (b.f2.map cvN) b.f3 p) true := by
  rw [cvN_eq a, cvN_eq b] at h
  exact same_ev h
end Go.Proofs.YtnjoncbgekonbaaDoor.PExpr
end
section
namespace Go.Proofs.YtnjoncbgekonbaaDoor.PExpr
open Go.RowKit Go.Proofs.YtnjoncbgekonbaaDoorW.PrintWords Go.Proofs.YtnjoncbgekonbaaDoorW.PrintLast Go.Proofs.YtnjoncbgekonbaaDoorW.PrintMore
set_option linter.unusedVariables false
set_option linter.unusedSimpArgs false
def TokAt (p : Pt) : TRes → Prop
  | .ok t l => t.f2 = p.f2 ∧ t.f0 ≠ 4
  | .bad why pos => why = 30 ∧ pos = p.f2
theorem num_at (p : Pt) (r : List Pt) : TokAt p (numP p r) := by
  unfold numP
  split
  · split
    · exact ⟨rfl, show (0 : Int) ≠ 4 by decide⟩
    · exact ⟨rfl, show (0 : Int) ≠ 4 by decide⟩
  · exact ⟨rfl, show (0 : Int) ≠ 4 by decide⟩
theorem sign_at (p : Pt) (r : List Pt) : TokAt p (signP p r) := by
  unfold signP
  split
  · split
    · exact ⟨rfl, show (3 : Int) ≠ 4 by decide⟩
    · exact ⟨rfl, show (3 : Int) ≠ 4 by decide⟩
  · exact ⟨rfl, show (3 : Int) ≠ 4 by decide⟩
theorem token_at {s : ByteArray} {p : Pt} {r : List Pt} {R : TRes} (h : tokenP s p r = some R) : TokAt p R := by
  unfold tokenP at h
  by_cases c1 : p.f1 = sQuote
  · rw [if_pos c1] at h
    obtain ⟨q, hq, hR⟩ := Option.map_eq_some_iff.1 h
    cases q with
    | none => subst hR; exact ⟨rfl, rfl⟩
    | some x => subst hR; exact ⟨rfl, show (2 : Int) ≠ 4 by decide⟩
  rw [if_neg c1] at h
  by_cases c2 : p.f0 = 1
  · rw [if_pos c2] at h
    obtain rfl := Option.some.inj h
    exact num_at p r
  rw [if_neg c2] at h
  by_cases c3 : p.f0 = 2
  · rw [if_pos c3] at h
    obtain rfl := Option.some.inj h
    exact ⟨rfl, show (1 : Int) ≠ 4 by decide⟩
  · rw [if_neg c3] at h
    obtain rfl := Option.some.inj h
    exact sign_at p r
end Go.Proofs.YtnjoncbgekonbaaDoor.PExpr
end
section
namespace Go.Proofs.YtnjoncbgekonbaaDoor.PExpr
open Go.RowKit Go.Proofs.YtnjoncbgekonbaaDoorW.PrintWords Go.Proofs.YtnjoncbgekonbaaDoorW.PrintLast Go.Proofs.YtnjoncbgekonbaaDoorW.PrintMore
set_option linter.unusedVariables false
set_option linter.unusedSimpArgs false
theorem hasQ_size {s : ByteArray} (h : hasQ s = true) : 1 ≤ s.size := by
  unfold hasQ at h
  by_cases h1 : 1 ≤ s.size
  · exact h1
  · rw [if_neg h1] at h
    cases h
theorem quoteL_some (s : ByteArray) : ∀ (f : Nat) (acc : List UInt8) (k : Nat), s.size < f + k → f ≠ 0 → ∃ q, quoteL s f acc k = some q
  | 0, acc, k, h, h0 => absurd rfl h0
  | f + 1, acc, k, h, _ => by
    unfold quoteL
    by_cases c1 : quoteAt (s.extract k s.size) < 0
    · rw [if_pos c1]
      exact ⟨_, rfl⟩
    rw [if_neg c1]
    by_cases c2 : hasQ (s.extract (k + (quoteAt (s.extract k s.size)).toNat + 1) s.size) = true
    · rw [if_pos c2]
      have h1 := hasQ_size c2
      rw [ByteArray.size_extract] at h1
      exact quoteL_some s f _ _ (by omega) (by omega)
    · rw [if_neg c2]
      exact ⟨_, rfl⟩
end Go.Proofs.YtnjoncbgekonbaaDoor.PExpr
end
section
namespace Go.Proofs.YtnjoncbgekonbaaDoor.PExpr
open Go.RowKit Go.Proofs.YtnjoncbgekonbaaDoorW.PrintWords Go.Proofs.YtnjoncbgekonbaaDoorW.PrintLast Go.Proofs.YtnjoncbgekonbaaDoorW.PrintMore
set_option linter.unusedVariables false
set_option linter.unusedSimpArgs false
theorem token_some (s : ByteArray) (p : Pt) (r : List Pt) : ∃ R, tokenP s p r = some R := by
  unfold tokenP
  by_cases c1 : p.f1 = sQuote
  · rw [if_pos c1]
    obtain ⟨q, hq⟩ := quoteL_some s (s.size + 2) [] (p.f2.toNat + 1) (by omega) (by omega)
    rw [hq]
    exact ⟨_, rfl⟩
  rw [if_neg c1]
  by_cases c2 : p.f0 = 1
  · rw [if_pos c2]
    exact ⟨_, rfl⟩
  rw [if_neg c2]
  by_cases c3 : p.f0 = 2
  · rw [if_pos c3]
    exact ⟨_, rfl⟩
  · rw [if_neg c3]
    exact ⟨_, rfl⟩
def TkIn (s : ByteArray) (t : Tk) : Prop := t.f0 ≠ 4 ∧ 0 ≤ t.f2 ∧ t.f2 < s.size
def LexGood (s : ByteArray) (m : Nat) : LexR → Prop
  | .toks l => (∀ t, t ∈ l → TkIn s t) ∧ l.length ≤ m
  | .bad why pos => why = 30 ∧ 0 ≤ pos ∧ pos < s.size
theorem lexL_good (s : ByteArray) : ∀ (f : Nat) (acc : List Tk) (l : List Pt), l.length < f → (∀ p, p ∈ l → 0 ≤ p.f2 ∧ p.f2 < s.size) → (∀ t, t ∈ acc → TkIn s t) → ∃ R, lexL s f acc l = some R ∧ LexGood s (acc.length + l.length) R
  | 0, acc, l, hf, _, _ => by omega
  | f + 1, acc, [], hf, _, ha => ⟨_, rfl, ha, by simp⟩
  | f + 1, acc, p :: r, hf, hp, ha => by
    obtain ⟨R, hR⟩ := token_some s p r
    have hat := token_at hR
    have h0 := hp p (by simp)
    rw [lexL, hR]
    cases R with
    | bad why pos => exact ⟨_, rfl, hat.1, by rw [hat.2]; exact h0.1, by rw [hat.2]; exact h0.2⟩
    | ok t l =>
      have hm := token_mem hR
      rw [List.length_cons] at hf
      obtain ⟨R', h1, h2⟩ := lexL_good s f (acc ++ [t]) l (by omega) (fun q hq => hp q (List.mem_cons_of_mem _ (hm.1 q hq))) (fun u hu => by
        rcases List.mem_append.1 hu with hu | hu
        · exact ha u hu
        · rw [List.mem_singleton.1 hu]
          exact ⟨hat.2, by rw [hat.1]; exact h0.1, by rw [hat.1]; exact h0.2⟩)
      refine ⟨R', h1, ?_⟩
      cases R' with
      | toks l' => exact ⟨h2.1, by have := h2.2; simp at this ⊢; omega⟩
      | bad why pos => exact h2
end Go.Proofs.YtnjoncbgekonbaaDoor.PExpr
end
section
namespace Go.Proofs.YtnjoncbgekonbaaDoor.PExpr
open Go.RowKit Go.Proofs.YtnjoncbgekonbaaDoor.Utf Go.Proofs.YtnjoncbgekonbaaDoorW.PrintWords Go.Proofs.YtnjoncbgekonbaaDoorW.PrintLast Go.Proofs.YtnjoncbgekonbaaDoorW.PrintMore
set_option linter.unusedVariables false
set_option linter.unusedSimpArgs false
def Full (l : List Pt) : Prop := ∀ q, q ∈ l → 1 ≤ q.f1.size
theorem loop_full (s : ByteArray) : ∀ (d : Nat) (l : List Pt) (last : Int) (pos : Nat) (R : List Pt) (x y : Int), spLoop s d l last pos = some (R, x, y) → Full l → (y = 0 ∧ Full R) ∨ (y = 21 ∧ 0 ≤ x ∧ x < s.size)
  | 0, l, last, pos, R, x, y, h, _ => by cases h
  | d + 1, l, last, pos, R, x, y, h, hl => by
    unfold spLoop at h
    by_cases hlt : pos < s.size
    · rw [if_pos hlt] at h
      have h1 := decode_width s pos hlt
      split at h
      · injection h with h
        injection h with _ h
        injection h with h2 h3
        exact Or.inr ⟨h3.symm, by omega, by omega⟩
      split at h
      · injection h with h
        injection h with _ h
        injection h with h2 h3
        exact Or.inr ⟨h3.symm, by omega, by omega⟩
      rename_i hb
      have hw := enc_width s pos hlt (fun q => hb ((bad_iff s pos hlt).mpr q))
      split at h
      · exact loop_full s d l 0 _ R x y h hl
      split at h
      · split at h
        · cases h
        rename_i hl0
        split at h
        · refine loop_full s d _ _ _ R x y h (fun q hq => ?_)
          rcases List.mem_or_eq_of_mem_set hq with hq | hq
          · exact hl q hq
          · subst hq
            dsimp only
            rw [ByteArray.size_append, hw]
            omega
        · cases h
      · refine loop_full s d _ _ _ R x y h (fun q hq => ?_)
        rcases List.mem_append.1 hq with hq | hq
        · exact hl q hq
        · obtain rfl := List.mem_singleton.1 hq
          dsimp only
          rw [hw]
          exact h1
    · rw [if_neg hlt] at h
      injection h with h
      injection h with h h2
      injection h2 with h2 h3
      subst h
      exact Or.inl ⟨h3.symm, hl⟩
end Go.Proofs.YtnjoncbgekonbaaDoor.PExpr
end
section
namespace Go.Proofs.YtnjoncbgekonbaaDoor.PExpr
open Go.RowKit Go.Proofs.YtnjoncbgekonbaaDoor.Utf Go.Proofs.YtnjoncbgekonbaaDoorW.PrintWords Go.Proofs.YtnjoncbgekonbaaDoorW.PrintLast Go.Proofs.YtnjoncbgekonbaaDoorW.PrintMore
set_option linter.unusedVariables false
set_option linter.unusedSimpArgs false
theorem loop_some (s : ByteArray) (hs : s.size ≤ 2048) : ∀ (d : Nat) (l : List Pt) (last : Int) (pos : Nat), s.size < d + pos → pos ≤ s.size → (∀ q, q ∈ l → q.f1.size ≤ pos) → (last = 0 ∨ l.length ≠ 0) → ∃ R, spLoop s d l last pos = some R
  | 0, l, last, pos, hd, hp, _, _ => by omega
  | d + 1, l, last, pos, hd, hp, hl, hlast => by
    unfold spLoop
    by_cases hlt : pos < s.size
    · rw [if_pos hlt]
      have h1 := decode_width s pos hlt
      have h2 := decode_end s pos hlt
      have hl2 : ∀ q, q ∈ l → q.f1.size ≤ pos + (Utf8.decode s pos).2 := fun q hq => by have := hl q hq; omega
      split
      · exact ⟨_, rfl⟩
      split
      · exact ⟨_, rfl⟩
      rename_i hb
      have hw := enc_width s pos hlt (fun q => hb ((bad_iff s pos hlt).mpr q))
      split
      · exact loop_some s hs d l 0 _ (by omega) h2 hl2 (Or.inl rfl)
      rename_i hk0
      split
      · rename_i hk
        have hl0 : l.length ≠ 0 := by
          rcases hlast with q | q
          · exact absurd (hk.1.trans q) hk0
          · exact q
        have hla := hl _ (lastP_mem hl0)
        rw [if_neg hl0, if_pos (by rw [hw]; omega)]
        refine loop_some s hs d _ _ _ (by omega) h2 (fun q hq => ?_) (Or.inr (by rw [List.length_set]; exact hl0))
        rcases List.mem_or_eq_of_mem_set hq with hq | hq
        · exact hl2 q hq
        · subst hq
          dsimp only
          rw [ByteArray.size_append, hw]
          omega
      · refine loop_some s hs d _ _ _ (by omega) h2 (fun q hq => ?_) (Or.inr (by simp))
        rcases List.mem_append.1 hq with hq | hq
        · exact hl2 q hq
        · obtain rfl := List.mem_singleton.1 hq
          dsimp only
          rw [hw]
          omega
    · rw [if_neg hlt]
      exact ⟨_, rfl⟩
end Go.Proofs.YtnjoncbgekonbaaDoor.PExpr
end
section
namespace Go.Proofs.YtnjoncbgekonbaaDoor.PExpr
open Go.RowKit Go.Proofs.YtnjoncbgekonbaaDoorW.PrintWords Go.Proofs.YtnjoncbgekonbaaDoorW.PrintLast Go.Proofs.YtnjoncbgekonbaaDoorW.PrintMore
set_option linter.unusedVariables false
set_option linter.unusedSimpArgs false
theorem tks_last (s : ByteArray) : ∀ (l : List Tk), (∀ t, t ∈ l → TkIn s t) → Tks s.size (l ++ [lastT s])
  | [], _ => Tks.fin _ rfl (by show (0 : Int) ≤ s.size; omega) (Int.le_refl _)
  | t :: r, h => by
    have ht := h t (by simp)
    exact Tks.more t _ ht.1 ht.2.1 ht.2.2 (tks_last s r (fun u hu => h u (by simp [hu])))
end Go.Proofs.YtnjoncbgekonbaaDoor.PExpr
end
section
namespace Go.Proofs.YtnjoncbgekonbaaDoor.PExpr
open Go.RowKit Go.Proofs.YtnjoncbgekonbaaDoorW.PrintWords Go.Proofs.YtnjoncbgekonbaaDoorW.PrintLast Go.Proofs.YtnjoncbgekonbaaDoorW.PrintMore
set_option linter.unusedVariables false
set_option linter.unusedSimpArgs false
theorem readP_good (s : ByteArray) (l : List Tk) (hl : ∀ t, t ∈ l → TkIn s t) (hm : l.length ≤ 2049) : ∃ n pos why, readP (l ++ [lastT s]) = some (n, pos, why) ∧ ((why = 0 ∧ pos = 0 ∧ NdIn s.size n) ∨ ((why = 30 ∨ why = 31) ∧ 0 ≤ pos ∧ pos ≤ s.size)) := by
  have hg := parse_places (len := s.size) 5000 0 0 (l ++ [lastT s]) (Nat.le_refl _) (by decide) (by decide) (by decide) (by rw [List.length_append, List.length_singleton]; have : (21 - (0 : Int)).toNat = 21 := rfl; omega) (tks_last s l hl)
  unfold readP
  cases hR : parse 5000 0 0 (l ++ [lastT s]) with
  | none => rw [hR] at hg; exact hg.elim
  | some R =>
    rw [hR] at hg
    cases R with
    | bad why pos => exact ⟨_, _, _, rfl, Or.inr ⟨hg.2.2, hg.1, hg.2.1⟩⟩
    | ok n r =>
      cases r with
      | nil => exact absurd rfl hg.2.1.ne
      | cons t r =>
        by_cases h4 : t.f0 ≠ 4
        · exact ⟨_, _, _, if_pos h4, Or.inr ⟨Or.inl rfl, hg.2.1.place.1, hg.2.1.place.2⟩⟩
        · exact ⟨_, _, _, if_neg h4, Or.inl ⟨rfl, rfl, hg.1⟩⟩
end Go.Proofs.YtnjoncbgekonbaaDoor.PExpr
end
section
namespace Go.Proofs.YtnjoncbgekonbaaDoor.PExpr
open Go.RowKit Go.Proofs.YtnjoncbgekonbaaDoorW.PrintWords Go.Proofs.YtnjoncbgekonbaaDoorW.PrintLast Go.Proofs.YtnjoncbgekonbaaDoorW.PrintMore
set_option linter.unusedVariables false
set_option linter.unusedSimpArgs false
def shP (d : Int) (p : Pt) : Pt := ⟨p.f0, p.f1, p.f2 + d⟩
def shT (d : Int) (t : Tk) : Tk := ⟨t.f0, t.f1, t.f2 + d⟩
def Behind (e : Int) (z : List Pt) : Prop := (∃ q r, z = q :: r ∧ q.f0 = 3 ∧ q.f1 = sShut) ∧ ∀ q, q ∈ z → e ≤ q.f2
theorem index_app (x y : List UInt8) (c : UInt8) (h : 0 ≤ Lib.indexByte x c) : Lib.indexByte (x ++ y) c = Lib.indexByte x c := by
  induction x with
  | nil => exact absurd h (by simp [Lib.indexByte])
  | cons b x ih =>
    rw [List.cons_append]
    unfold Lib.indexByte at h ⊢
    by_cases hb : (b == c) = true
    · rw [if_pos hb, if_pos hb]
    · rw [if_neg hb] at h
      rw [if_neg hb, if_neg hb]
      by_cases hx : (Lib.indexByte x c == -1) = true
      · rw [if_pos hx] at h
        exact absurd h (by decide)
      · have h0 : 0 ≤ Lib.indexByte x c := by
          have := Lib.indexByte_ge x c
          have hx' : Lib.indexByte x c ≠ -1 := by simpa using hx
          omega
        rw [ih h0]
theorem emb_extract (a s b : ByteArray) (k : Nat) (hk : k ≤ s.size) : (a ++ s ++ b).extract (a.size + k) (a ++ s ++ b).size = s.extract k s.size ++ b := by
  apply ByteArray.ext
  apply Array.toList_inj.mp
  have h1 : a.data.toList.length = a.size := by simp
  have h2 : s.data.toList.length = s.size := by simp
  have h3 : b.data.toList.length = b.size := by simp
  have h4 : (a ++ s ++ b).size = a.size + s.size + b.size := by simp
  have h5 : (a ++ s ++ b).data.toList = a.data.toList ++ (s.data.toList ++ b.data.toList) := by simp
  rw [h4]
  simp only [ByteArray.data_extract, Array.toList_extract, ByteArray.data_append, Array.toList_append, List.extract_eq_take_drop, List.append_assoc]
  rw [List.drop_append, List.drop_of_length_le (by omega), List.nil_append, h1, List.take_of_length_le (by rw [List.length_drop, List.length_append]; omega), List.drop_append, List.take_of_length_le (by rw [List.length_drop]; omega)]
  have e : a.size + k - a.size - s.data.toList.length = 0 := by omega
  rw [e, Nat.add_sub_cancel_left]
  rfl
theorem quoteAt_app (x b : ByteArray) (h : 0 ≤ quoteAt x) : quoteAt (x ++ b) = quoteAt x := by
  unfold quoteAt at h ⊢
  rw [ByteArray.data_append, Array.toList_append]
  exact index_app _ _ _ h
theorem extract_app (x b : ByteArray) (n : Nat) (h : n ≤ x.size) : (x ++ b).extract 0 n = x.extract 0 n := by
  apply ByteArray.ext
  apply Array.toList_inj.mp
  have h1 : x.data.toList.length = x.size := by simp
  simp only [ByteArray.data_extract, Array.toList_extract, ByteArray.data_append, Array.toList_append, List.extract_eq_take_drop, List.drop_zero]
  rw [List.take_append_of_le_length (by omega)]
theorem hasQ_app (x b : ByteArray) (hb : hasQ b = false) : hasQ (x ++ b) = hasQ x := by
  by_cases hx : 1 ≤ x.size
  · unfold hasQ
    have h4 : (x ++ b).size = x.size + b.size := by simp
    rw [if_pos hx, if_pos (by omega), extract_app x b 1 hx]
  · have e : x = ⟨#[]⟩ := by
      have h0 : x.size = 0 := by omega
      apply ByteArray.ext
      apply Array.toList_inj.mp
      have h1 : x.data.toList.length = x.size := by simp
      exact List.eq_nil_of_length_eq_zero (by omega)
    have e2 : x ++ b = b := by
      rw [e]
      apply ByteArray.ext
      simp
    rw [e2, hb]
    unfold hasQ
    rw [if_neg hx]
theorem quoteL_emb (a s b : ByteArray) (hb : hasQ b = false) : ∀ (f f' : Nat) (acc : List UInt8) (k : Nat) (t : List UInt8) (k2 : Nat), f ≤ f' → k ≤ s.size → quoteL s f acc k = some (some (t, k2)) → quoteL (a ++ s ++ b) f' acc (a.size + k) = some (some (t, a.size + k2)) ∧ k2 ≤ s.size
  | 0, f', acc, k, t, k2, hf, hk, h => by cases h
  | f + 1, 0, acc, k, t, k2, hf, hk, h => by omega
  | f + 1, f' + 1, acc, k, t, k2, hf, hk, h => by
    rw [quoteL] at h
    by_cases c1 : quoteAt (s.extract k s.size) < 0
    · rw [if_pos c1] at h
      cases h
    rw [if_neg c1] at h
    have hlt := quoteAt_lt (s.extract k s.size)
    rw [ByteArray.size_extract] at hlt
    have eq := quoteAt_app (s.extract k s.size) b (by omega)
    have eh := hasQ_app (s.extract (k + (quoteAt (s.extract k s.size)).toNat + 1) s.size) b hb
    have ex := extract_app (s.extract k s.size) b (quoteAt (s.extract k s.size)).toNat (by rw [ByteArray.size_extract]; omega)
    rw [quoteL, emb_extract a s b k hk, eq, if_neg c1, show a.size + k + (quoteAt (s.extract k s.size)).toNat + 1 = a.size + (k + (quoteAt (s.extract k s.size)).toNat + 1) by omega, emb_extract a s b _ (by omega), eh, ex]
    by_cases c2 : hasQ (s.extract (k + (quoteAt (s.extract k s.size)).toNat + 1) s.size) = true
    · rw [if_pos c2] at h
      rw [if_pos c2]
      have h1 := hasQ_size c2
      rw [ByteArray.size_extract] at h1
      exact quoteL_emb a s b hb f f' _ _ t k2 (by omega) (by omega) h
    · rw [if_neg c2] at h
      rw [if_neg c2]
      simp only [Option.some.injEq, Prod.mk.injEq] at h
      obtain ⟨h1, h2⟩ := h
      rw [h1, ← h2]
      exact ⟨rfl, by omega⟩
theorem behind_emb (d : Int) (k : Int) (r z : List Pt) (hz : ∀ q, q ∈ z → k + d ≤ q.f2) : behind (k + d) (r.map (shP d) ++ z) = (behind k r).map (shP d) ++ z := by
  unfold behind
  rw [List.filter_append]
  congr 1
  · induction r with
    | nil => rfl
    | cons p r ih =>
      rw [List.map_cons, List.filter_cons, List.filter_cons, ih]
      have e : decide ((shP d p).f2 < k + d) = decide (p.f2 < k) := by
        have : (shP d p).f2 = p.f2 + d := rfl
        rw [this]
        by_cases h : p.f2 < k
        · rw [decide_eq_true h, decide_eq_true (by omega)]
        · rw [decide_eq_false h, decide_eq_false (by omega)]
      rw [e]
      by_cases h : p.f2 < k
      · simp [h]
      · simp [h]
  · rw [List.filter_eq_self]
    intro q hq
    have := hz q hq
    simp
    omega
theorem no_pair (c : UInt8) (x : ByteArray) (h : c ≠ 60 ∧ c ≠ 62 ∧ c ≠ 58) : hasB pairs4 ((⟨#[c]⟩ : ByteArray) ++ x) = false := by
  obtain ⟨h1, h2, h3⟩ := h
  unfold hasB pairs4
  have e : ((⟨#[c]⟩ : ByteArray) ++ x).data.toList = c :: x.data.toList := by simp
  simp only [List.any_cons, List.any_nil, Bool.or_false, Bool.or_eq_false_iff, e]
  have q1 : (60 : UInt8) ≠ c := fun e => h1 e.symm
  have q2 : (62 : UInt8) ≠ c := fun e => h2 e.symm
  have q3 : (58 : UInt8) ≠ c := fun e => h3 e.symm
  simp [h1, h2, h3]
theorem no_pair_shut (x : ByteArray) : hasB pairs4 (x ++ sShut) = false := by
  unfold hasB pairs4
  have e : (x ++ sShut).data.toList = x.data.toList ++ [41] := by simp [sShut]
  have hn : ∀ (l : List UInt8) (c d : UInt8), d ≠ 41 → (l ++ [41] == [c, d]) = false := by
    intro l c d hd
    rw [beq_eq_false_iff_ne]
    intro q
    have q2 := congrArg List.getLast? q
    rw [List.getLast?_concat] at q2
    simp at q2
    exact hd q2.symm
  simp only [List.any_cons, List.any_nil, Bool.or_false, Bool.or_eq_false_iff, e]
  exact ⟨hn _ 60 61 (by decide), hn _ 62 61 (by decide), hn _ 60 62 (by decide), hn _ 58 58 (by decide)⟩
theorem name_emb (d pos : Int) (z : List Pt) (hz : ∃ q r, z = q :: r ∧ q.f0 = 3 ∧ q.f1 = sShut) : ∀ (r : List Pt) (t : ByteArray), nameL (pos + d) t (r.map (shP d) ++ z) = ((nameL pos t r).1, (nameL pos t r).2.map (shP d) ++ z)
  | [], t => by
    obtain ⟨q, r, rfl, h3, _⟩ := hz
    show (if q.f2 = _ ∧ q.f0 ≠ 3 then _ else _) = _
    rw [if_neg (fun h => h.2 h3)]
    rfl
  | p :: r, t => by
    rw [List.map_cons, List.cons_append]
    show (if p.f2 + d = pos + d + t.size ∧ p.f0 ≠ 3 then nameL (pos + d) (t ++ p.f1) (r.map (shP d) ++ z) else (t, shP d p :: (r.map (shP d) ++ z))) = _
    rw [nameL]
    by_cases h : p.f2 = pos + t.size ∧ p.f0 ≠ 3
    · rw [if_pos h, if_pos ⟨by omega, h.2⟩]
      exact name_emb d pos z hz r _
    · rw [if_neg h, if_neg (fun q => h ⟨by omega, q.2⟩)]
      rfl
def embR (d : Int) (z : List Pt) : TRes → TRes
  | .ok t l => .ok (shT d t) (l.map (shP d) ++ z)
  | .bad why pos => .bad why (pos + d)
theorem sign_emb (d : Int) (z : List Pt) (hz : ∃ q r, z = q :: r ∧ q.f0 = 3 ∧ q.f1 = sShut) (p : Pt) (r : List Pt) : signP (shP d p) (r.map (shP d) ++ z) = embR d z (signP p r) := by
  cases r with
  | nil =>
    obtain ⟨q, r, rfl, h3, h1⟩ := hz
    show (if q.f2 = _ ∧ hasB pairs4 (p.f1 ++ q.f1) = true then _ else _) = _
    rw [if_neg (fun h => by rw [h1, no_pair_shut] at h; cases h.2)]
    rfl
  | cons q r =>
    rw [List.map_cons, List.cons_append]
    show (if q.f2 + d = p.f2 + d + 1 ∧ hasB pairs4 (p.f1 ++ q.f1) = true then _ else _) = _
    rw [signP]
    by_cases h : q.f2 = p.f2 + 1 ∧ hasB pairs4 (p.f1 ++ q.f1) = true
    · rw [if_pos h, if_pos ⟨by omega, h.2⟩]
      rfl
    · rw [if_neg h, if_neg (fun q => h ⟨by omega, q.2⟩)]
      rfl
theorem num_emb (d : Int) (z : List Pt) (hz : ∃ q r, z = q :: r ∧ q.f0 = 3 ∧ q.f1 = sShut) (p : Pt) (r : List Pt) : numP (shP d p) (r.map (shP d) ++ z) = embR d z (numP p r) := by
  obtain ⟨u, w, rfl, h3, h1⟩ := hz
  have hu : ∀ l, pointB u l = false := fun l => by
    unfold pointB
    cases l with
    | nil => rfl
    | cons a l =>
      dsimp only
      rw [h1, decide_eq_false (by decide)]
      rfl
  match r with
  | [] =>
    cases w with
    | nil => rfl
    | cons v w =>
      show (if u.f2 = _ ∧ pointB u (v :: w) = true then _ else _) = _
      rw [if_neg (fun h => by rw [hu] at h; cases h.2)]
      rfl
  | [q] =>
    show (if q.f2 + d = p.f2 + d + p.f1.size ∧ pointB (shP d q) (u :: w) = true then _ else _) = _
    rw [if_neg (fun h => by
      have e : pointB (shP d q) (u :: w) = false := by
        unfold pointB
        dsimp only
        rw [h3]
        simp
      rw [e] at h
      cases h.2)]
    rfl
  | q :: q2 :: r =>
    show (if q.f2 + d = p.f2 + d + p.f1.size ∧ pointB (shP d q) (shP d q2 :: (r.map (shP d) ++ u :: w)) = true then _ else _) = _
    have e : pointB (shP d q) (shP d q2 :: (r.map (shP d) ++ u :: w)) = pointB q (q2 :: r) := by
      unfold pointB
      dsimp only
      have e1 : (shP d q2).f2 = q2.f2 + d := rfl
      have e2 : (shP d q).f2 = q.f2 + d := rfl
      have e3 : (q2.f2 + d == q.f2 + d + 1) = (q2.f2 == q.f2 + 1) := by
        rw [Bool.eq_iff_iff, beq_iff_eq, beq_iff_eq]
        omega
      rw [e1, e2, e3]
      rfl
    rw [e, numP]
    by_cases h : q.f2 = p.f2 + p.f1.size ∧ pointB q (q2 :: r) = true
    · rw [if_pos h, if_pos ⟨by omega, h.2⟩]
      rfl
    · rw [if_neg h, if_neg (fun q => h ⟨by omega, q.2⟩)]
      rfl
theorem token_emb (a s b : ByteArray) (hb : hasQ b = false) (z : List Pt) (hz : Behind (a.size + s.size : Nat) z) {p : Pt} {r l : List Pt} {t : Tk} (hp : PartIn s p) (h : tokenP s p r = some (.ok t l)) : tokenP (a ++ s ++ b) (shP a.size p) (r.map (shP a.size) ++ z) = some (.ok (shT a.size t) (l.map (shP a.size) ++ z)) := by
  unfold tokenP at h ⊢
  show (if p.f1 = sQuote then _ else if p.f0 = 1 then _ else if p.f0 = 2 then _ else _) = _
  by_cases c1 : p.f1 = sQuote
  · rw [if_pos c1] at h ⊢
    obtain ⟨q, hq, hR⟩ := Option.map_eq_some_iff.1 h
    cases q with
    | none => cases hR
    | some x =>
      obtain ⟨tx, k⟩ := x
      dsimp only at hR
      injection hR with hR1 hR2
      have h1 : p.f1.size = 1 := by rw [c1]; rfl
      unfold PartIn at hp
      have e := quoteL_emb a s b hb (s.size + 2) ((a ++ s ++ b).size + 2) [] (p.f2.toNat + 1) tx k (by simp; omega) (by omega) hq
      have ek : (shP a.size p).f2.toNat + 1 = a.size + (p.f2.toNat + 1) := by
        have : (shP a.size p).f2 = p.f2 + a.size := rfl
        omega
      rw [ek, e.1]
      show some (TRes.ok _ (behind ((a.size + k : Nat) : Int) (r.map (shP a.size) ++ z))) = _
      have eb := behind_emb a.size k r z (fun q hq => by have := hz.2 q hq; omega)
      rw [show ((a.size + k : Nat) : Int) = (k : Int) + (a.size : Int) by omega, eb, ← hR1, ← hR2]
      rfl
  rw [if_neg c1] at h ⊢
  by_cases c2 : p.f0 = 1
  · rw [if_pos c2] at h ⊢
    rw [num_emb _ z hz.1, Option.some.inj h]
    rfl
  rw [if_neg c2] at h ⊢
  by_cases c3 : p.f0 = 2
  · rw [if_pos c3] at h ⊢
    have e := name_emb a.size p.f2 z hz.1 r p.f1
    show some (TRes.ok ⟨1, lowS (nameL (p.f2 + a.size) p.f1 (r.map (shP a.size) ++ z)).1, p.f2 + a.size⟩ (nameL (p.f2 + a.size) p.f1 (r.map (shP a.size) ++ z)).2) = _
    rw [e]
    injection h with h
    injection h with h1 h2
    rw [← h1, ← h2]
    rfl
  · rw [if_neg c3] at h ⊢
    rw [sign_emb _ z hz.1, Option.some.inj h]
    rfl
theorem lex_emb (a s b : ByteArray) (hb : hasQ b = false) (z : List Pt) (hz : Behind (a.size + s.size : Nat) z) : ∀ (f : Nat) (acc : List Tk) (l : List Pt) (ts : List Tk), (∀ p, p ∈ l → PartIn s p) → lexL s f acc l = some (.toks ts) → ∃ ts0 g, ts = acc ++ ts0 ∧ g ≤ l.length ∧ ∀ f' acc', lexL (a ++ s ++ b) (f' + g) acc' (l.map (shP a.size) ++ z) = lexL (a ++ s ++ b) f' (acc' ++ ts0.map (shT a.size)) z
  | 0, acc, l, ts, hl, h => by cases h
  | f + 1, acc, [], ts, hl, h => by
    have e : acc = ts := by
      have h' : some (LexR.toks acc) = some (LexR.toks ts) := h
      injection h' with h'
      injection h' with h'
    exact ⟨[], 0, by rw [e, List.append_nil], Nat.le_refl _, fun f' acc' => by rw [List.map_nil, List.map_nil, List.append_nil]; rfl⟩
  | f + 1, acc, p :: r, ts, hl, h => by
    rw [lexL] at h
    cases hR : tokenP s p r with
    | none => rw [hR] at h; cases h
    | some R =>
      rw [hR] at h
      cases R with
      | bad why pos => cases h
      | ok t l =>
        have hm := token_mem hR
        have e1 := token_emb a s b hb z hz (hl p (by simp)) hR
        obtain ⟨ts0, g, e2, hg, e3⟩ := lex_emb a s b hb z hz f (acc ++ [t]) l ts (fun q hq => hl q (List.mem_cons_of_mem _ (hm.1 q hq))) h
        refine ⟨t :: ts0, g + 1, by rw [e2, List.append_assoc]; rfl, by rw [List.length_cons]; omega, fun f' acc' => ?_⟩
        rw [List.map_cons, List.cons_append, ← Nat.add_assoc, lexL, e1]
        show lexL (a ++ s ++ b) (f' + g) (acc' ++ [shT a.size t]) _ = _
        rw [e3, List.append_assoc]
        rfl
theorem lex_sign (S : ByteArray) (c : UInt8) (x : Int) (hc : c ≠ 60 ∧ c ≠ 62 ∧ c ≠ 58 ∧ c ≠ 39) (f : Nat) (acc : List Tk) (r : List Pt) : lexL S (f + 1) acc (⟨3, ⟨#[c]⟩, x⟩ :: r) = lexL S f (acc ++ [⟨3, ⟨#[c]⟩, x⟩]) r := by
  have e : tokenP S ⟨3, ⟨#[c]⟩, x⟩ r = some (.ok ⟨3, ⟨#[c]⟩, x⟩ r) := by
    unfold tokenP
    have hq : (⟨#[c]⟩ : ByteArray) ≠ sQuote := fun h => by
      have h' := congrArg (fun b : ByteArray => b.data.toList) h
      simp [sQuote] at h'
      exact hc.2.2.2 h'
    show (if (⟨#[c]⟩ : ByteArray) = sQuote then _ else if (3 : Int) = 1 then _ else if (3 : Int) = 2 then _ else _) = _
    rw [if_neg hq, if_neg (by decide), if_neg (by decide)]
    unfold signP
    cases r with
    | nil => rfl
    | cons q r =>
      dsimp only
      rw [if_neg (fun h => by rw [no_pair c q.f1 ⟨hc.1, hc.2.1, hc.2.2.1⟩] at h; cases h.2)]
  rw [lexL, e]
  rfl
end Go.Proofs.YtnjoncbgekonbaaDoor.PExpr
end
section
namespace Go.Proofs.YtnjoncbgekonbaaDoor.PExpr
open Go.RowKit Go.Proofs.YtnjoncbgekonbaaDoor.Utf Go.Proofs.YtnjoncbgekonbaaDoorW.PrintWords Go.Proofs.YtnjoncbgekonbaaDoorW.PrintLast Go.Proofs.YtnjoncbgekonbaaDoorW.PrintMore
set_option linter.unusedVariables false
set_option linter.unusedSimpArgs false
def kd (s : ByteArray) (p : Nat) : Int := kindR (Utf8.decode s p).1
def tx (s : ByteArray) (p : Nat) : ByteArray := s.extract p (p + (Utf8.decode s p).2)
def nx (s : ByteArray) (p : Nat) : Nat := p + (Utf8.decode s p).2
def nextL (s : ByteArray) (l : List S59) (last : Int) (p : Nat) : List S59 :=
  if kd s p = 0 then l else if kd s p = last ∧ kd s p ≠ 3 then l.set (l.length - 1) ⟨(lastP l).f0, (lastP l).f1 ++ tx s p, (lastP l).f2⟩ else l ++ [⟨kd s p, tx s p, (p : Int)⟩]
inductive Run (s : ByteArray) : List S59 → Int → Nat → List S59 → Prop
  | done (l : List S59) (last : Int) (p : Nat) (h : s.size ≤ p) : Run s l last p l
  | step (l : List S59) (last : Int) (p : Nat) (R : List S59) (h : p < s.size) (hb : ¬ Bad s p) (hk : kd s p ≠ 4) (hn : Run s (nextL s l last p) (kd s p) (nx s p) R) : Run s l last p R
inductive BadAt (s : ByteArray) : Nat → Nat → Prop
  | here (p : Nat) (h : p < s.size) (hb : Bad s p ∨ kd s p = 4) : BadAt s p p
  | step (p q : Nat) (h : p < s.size) (hb : ¬ Bad s p) (hk : kd s p ≠ 4) (hn : BadAt s (nx s p) q) : BadAt s p q
theorem nx_gt (s : ByteArray) (p : Nat) (h : p < s.size) : p < nx s p := by have := decode_width s p h; unfold nx; omega
theorem nx_le (s : ByteArray) (p : Nat) (h : p < s.size) : nx s p ≤ s.size := decode_end s p h
theorem run_or_bad (s : ByteArray) : ∀ d p, s.size - p = d → (∀ l last, ∃ R, Run s l last p R) ∨ ∃ q, BadAt s p q := by
  intro d
  induction d using Nat.strongRecOn with
  | _ d ih =>
    intro p hd
    by_cases h : p < s.size
    · by_cases hb : Bad s p ∨ kd s p = 4
      · exact .inr ⟨p, .here p h hb⟩
      · have h1 := nx_gt s p h
        rcases ih (s.size - nx s p) (by omega) (nx s p) rfl with h2 | ⟨q, h2⟩
        · refine .inl fun l last => ?_
          obtain ⟨R, hR⟩ := h2 (nextL s l last p) (kd s p)
          exact ⟨R, .step l last p R h (fun x => hb (.inl x)) (fun x => hb (.inr x)) hR⟩
        · exact .inr ⟨q, .step p q h (fun x => hb (.inl x)) (fun x => hb (.inr x)) h2⟩
    · exact .inl fun l last => ⟨l, .done l last p (by omega)⟩
structure Inv (l : List S59) (last : Int) (p : Nat) : Prop where
  some_ : last ≠ 0 → l.length ≠ 0
  small : ∀ x ∈ l, x.f1.size ≤ p
theorem lastP_memW (l : List S59) (h : l.length ≠ 0) : lastP l ∈ l := by
  unfold lastP rd_T59
  have e : ((l.length : Int) - 1).toNat = l.length - 1 := by omega
  rw [e, List.getD_eq_getElem?_getD, List.getElem?_eq_getElem (by omega)]
  exact List.getElem_mem _
theorem tx_size (s : ByteArray) (p : Nat) (h : p < s.size) : (tx s p).size = (Utf8.decode s p).2 := by
  have := decode_end s p h
  unfold tx
  rw [← len_list, ext_list, List.length_take, List.length_drop, len_list]
  omega
theorem tx_encode (s : ByteArray) (p : Nat) (h : p < s.size) (hb : ¬ Bad s p) : Utf8.encode (Utf8.decode s p).1 = tx s p := encode_decode s p h hb
theorem size_append (a b : ByteArray) : (a ++ b).size = a.size + b.size := by simp
theorem sp_step (s : ByteArray) (hs : s.size ≤ 2048) (d : Nat) (l : List S59) (last : Int) (p : Nat) (h : p < s.size) (hb : ¬ Bad s p) (hk : kd s p ≠ 4) (hI : Inv l last p) :
    spLoop s (d + 1) l last p = spLoop s d (nextL s l last p) (kd s p) (nx s p) ∧ Inv (nextL s l last p) (kd s p) (nx s p) := by
  have hnx := nx_gt s p h
  have htx := tx_size s p h
  have hnb : ¬ (((Utf8.decode s p).1 : Int) = 65533 ∧ wholeAt s p = false) := fun x => hb ((bad_iff s p h).mp x)
  have hle := nx_le s p h
  constructor
  · simp only [spLoop]
    rw [if_pos h, tx_encode s p h hb]
    show (if kd s p = 4 then _ else _) = _
    rw [if_neg hk, if_neg hnb]
    unfold nextL
    show (if kd s p = 0 then spLoop s d l 0 (nx s p) else if kd s p = last ∧ kd s p ≠ 3 then _ else spLoop s d (l ++ [⟨kd s p, tx s p, (p : Int)⟩]) (kd s p) (nx s p)) = _
    by_cases h0 : kd s p = 0
    · rw [if_pos h0, if_pos h0, h0]
    · rw [if_neg h0, if_neg h0]
      by_cases h1 : kd s p = last ∧ kd s p ≠ 3
      · rw [if_pos h1, if_pos h1]
        have hl := hI.some_ (by rw [← h1.1]; exact h0)
        have hsm := hI.small _ (lastP_memW l hl)
        rw [if_neg hl, if_pos (by unfold nx at hle; omega)]
        rfl
      · rw [if_neg h1, if_neg h1]
  · unfold nextL
    have hp : ∀ x ∈ l, x.f1.size ≤ nx s p := fun x hx => by have := hI.small x hx; omega
    by_cases h0 : kd s p = 0
    · rw [if_pos h0]
      exact ⟨fun h => absurd h0 h, hp⟩
    · rw [if_neg h0]
      by_cases h1 : kd s p = last ∧ kd s p ≠ 3
      · rw [if_pos h1]
        have hl := hI.some_ (by rw [← h1.1]; exact h0)
        have hsm := hI.small _ (lastP_memW l hl)
        refine ⟨fun _ => by rw [List.length_set]; exact hl, fun x hx => ?_⟩
        rcases List.mem_or_eq_of_mem_set hx with h2 | h2
        · exact hp x h2
        · subst h2
          show ((lastP l).f1 ++ tx s p).size ≤ _
          rw [size_append, htx]
          unfold nx
          omega
      · rw [if_neg h1]
        refine ⟨fun _ => by simp, fun x hx => ?_⟩
        rcases List.mem_append.mp hx with h2 | h2
        · exact hp x h2
        · obtain rfl := List.mem_singleton.mp h2
          show (tx s p).size ≤ _
          rw [htx]
          unfold nx
          omega
theorem sp_run (s : ByteArray) (hs : s.size ≤ 2048) {l : List S59} {last : Int} {p : Nat} {R : List S59} (h : Run s l last p R) : ∀ d, s.size - p < d → Inv l last p → spLoop s d l last p = some (R, 0, 0) := by
  induction h with
  | done l last p h =>
    intro d hd _
    obtain ⟨d, rfl⟩ : ∃ m, d = m + 1 := ⟨d - 1, by omega⟩
    simp only [spLoop]
    rw [if_neg (by omega)]
  | step l last p R h hb hk hn ih =>
    intro d hd hI
    obtain ⟨d, rfl⟩ : ∃ m, d = m + 1 := ⟨d - 1, by omega⟩
    obtain ⟨h1, h2⟩ := sp_step s hs d l last p h hb hk hI
    have h3 := nx_gt s p h
    rw [h1]
    exact ih d (by omega) h2
theorem sp_bad (s : ByteArray) (hs : s.size ≤ 2048) {p q : Nat} (h : BadAt s p q) : ∀ d l last, s.size - p < d → Inv l last p → spLoop s d l last p = some ([], (q : Int), 21) := by
  induction h with
  | here p h hb =>
    intro d l last hd _
    obtain ⟨d, rfl⟩ : ∃ m, d = m + 1 := ⟨d - 1, by omega⟩
    simp only [spLoop]
    rw [if_pos h]
    by_cases h4 : kd s p = 4
    · exact if_pos h4
    · rw [if_neg (show ¬ kindR (Utf8.decode s p).1 = 4 from h4)]
      exact if_pos ((bad_iff s p h).mpr (hb.resolve_right h4))
  | step p q h hb hk hn ih =>
    intro d l last hd hI
    obtain ⟨d, rfl⟩ : ∃ m, d = m + 1 := ⟨d - 1, by omega⟩
    obtain ⟨h1, h2⟩ := sp_step s hs d l last p h hb hk hI
    have h3 := nx_gt s p h
    rw [h1]
    exact ih d _ _ (by omega) h2
theorem kd_low (s : ByteArray) (p : Nat) (h : p < s.size) (h0 : bt s p < 128) : kd s p = kindR (bt s p) ∧ nx s p = p + 1 := by
  have hb : ¬ Bad s p := fun x => by have := x.1; omega
  rcases tells s p h with ⟨h1, h2, h3⟩ | ⟨h1, h2, h3⟩ | ⟨h1, h2, h3⟩ | ⟨h1, h2, h3⟩ | ⟨h1, h2, h3⟩
  · unfold kd nx; rw [h2, h3]; exact ⟨rfl, rfl⟩
  · have := h1.2.1; omega
  · have := h1.2.1; omega
  · have := h1.2.1; omega
  · exact absurd h1 hb
theorem split_run {s : ByteArray} {l : List S59} {x : Int} (h : word_Split.f s = some (l, x, 0)) : s.size ≤ 2048 ∧ Run s [] 0 0 l := by
  unfold word_Split.f at h
  by_cases hs : s.size > 2048
  · rw [if_pos hs] at h
    simp at h
  · rw [if_neg hs] at h
    refine ⟨by omega, ?_⟩
    have hI : Inv [] 0 0 := ⟨fun h => absurd rfl h, fun x hx => by cases hx⟩
    rcases run_or_bad s _ 0 rfl with hr | ⟨q, hq⟩
    · obtain ⟨R, hR⟩ := hr [] 0
      rw [sp_run s (by omega) hR _ (by omega) hI] at h
      obtain ⟨rfl, _⟩ := Prod.mk.inj (Option.some.inj h)
      exact hR
    · rw [sp_bad s (by omega) hq _ _ _ (by omega) hI] at h
      simp at h
theorem decode_same (s t : ByteArray) (p q : Nat) (hp : p < s.size) (hq : q < t.size) (hb : ¬ Bad s p) (hsz : s.size - p ≤ t.size - q) (h : ∀ i : Nat, p + i < s.size → bt t (q + i : Nat) = bt s (p + i : Nat)) :
    ¬ Bad t q ∧ (Utf8.decode t q).1 = (Utf8.decode s p).1 ∧ (Utf8.decode t q).2 = (Utf8.decode s p).2 := by
  have e0 := h 0 (by omega)
  rw [Nat.add_zero, Nat.add_zero] at e0
  have e1 := fun hh : p + 1 < s.size => h 1 hh
  have e2 := fun hh : p + 2 < s.size => h 2 hh
  have e3 := fun hh : p + 3 < s.size => h 3 hh
  have hT := tells t q hq
  rcases tells s p hp with ⟨h1, h2, h3⟩ | ⟨h1, h2, h3⟩ | ⟨h1, h2, h3⟩ | ⟨h1, h2, h3⟩ | ⟨h1, h2, h3⟩
  · have hnb : ¬ Bad t q := fun x => by have := x.1; omega
    refine ⟨hnb, ?_⟩
    rcases hT with ⟨g1, g2, g3⟩ | ⟨g1, g2, g3⟩ | ⟨g1, g2, g3⟩ | ⟨g1, g2, g3⟩ | ⟨g1, g2, g3⟩
    · exact ⟨by omega, by omega⟩
    · have := g1.2.1; omega
    · have := g1.2.1; omega
    · have := g1.2.1; omega
    · exact absurd g1 hnb
  · obtain ⟨a0, a1, a2, a3, a4⟩ := h1
    have e1 := e1 a0
    have two : Two t q := ⟨by omega, by omega, by omega, by omega, by omega⟩
    have hnb : ¬ Bad t q := fun x => x.2.1 two
    refine ⟨hnb, ?_⟩
    rcases hT with ⟨g1, g2, g3⟩ | ⟨g1, g2, g3⟩ | ⟨g1, g2, g3⟩ | ⟨g1, g2, g3⟩ | ⟨g1, g2, g3⟩
    · omega
    · exact ⟨by omega, by omega⟩
    · have := g1.2.1; omega
    · have := g1.2.1; omega
    · exact absurd g1 hnb
  · obtain ⟨a0, a1, a2, a3, a4, a5, a6, a7, a8⟩ := h1
    have e1 := e1 (by omega)
    have e2 := e2 a0
    have three : Three t q := ⟨by omega, by omega, by omega, by omega, by omega, by omega, by omega, fun e => by have := a7 (by omega); omega, fun e => by have := a8 (by omega); omega⟩
    have hnb : ¬ Bad t q := fun x => x.2.2.1 three
    refine ⟨hnb, ?_⟩
    rcases hT with ⟨g1, g2, g3⟩ | ⟨g1, g2, g3⟩ | ⟨g1, g2, g3⟩ | ⟨g1, g2, g3⟩ | ⟨g1, g2, g3⟩
    · omega
    · have := g1.2.2.1; omega
    · exact ⟨by omega, by omega⟩
    · have := g1.2.1; omega
    · exact absurd g1 hnb
  · obtain ⟨a0, a1, a2, a3, a4, a5, a6, a7, a8, a9, a10⟩ := h1
    have e1 := e1 (by omega)
    have e2 := e2 (by omega)
    have e3 := e3 a0
    have four : Four t q := ⟨by omega, by omega, by omega, by omega, by omega, by omega, by omega, by omega, by omega, fun e => by have := a9 (by omega); omega, fun e => by have := a10 (by omega); omega⟩
    have hnb : ¬ Bad t q := fun x => x.2.2.2 four
    refine ⟨hnb, ?_⟩
    rcases hT with ⟨g1, g2, g3⟩ | ⟨g1, g2, g3⟩ | ⟨g1, g2, g3⟩ | ⟨g1, g2, g3⟩ | ⟨g1, g2, g3⟩
    · omega
    · have := g1.2.2.1; omega
    · have := g1.2.2.1; omega
    · exact ⟨by omega, by omega⟩
    · exact absurd g1 hnb
  · exact absurd h1 hb
theorem bt_list (s : ByteArray) (i : Nat) : bt s (i : Int) = ((s.data.toList.getD i 0).toNat : Int) := by
  by_cases h : i < s.size
  · rw [bt_get s i h, List.getD_eq_getElem?_getD, List.getElem?_eq_getElem (by rw [len_list]; exact h)]
    rfl
  · unfold bt
    rw [dif_neg (by simpa using h), List.getD_eq_getElem?_getD, List.getElem?_eq_none (by rw [len_list]; omega)]
    rfl
theorem bt_left (a b : ByteArray) (i : Nat) (h : i < a.size) : bt (a ++ b) (i : Int) = bt a (i : Int) := by
  rw [bt_list, bt_list, ByteArray.data_append, Array.toList_append, List.getD_eq_getElem?_getD, List.getD_eq_getElem?_getD, List.getElem?_append_left (by rw [len_list]; exact h)]
theorem bt_right (a b : ByteArray) (i : Nat) : bt (a ++ b) ((a.size + i : Nat) : Int) = bt b (i : Int) := by
  rw [bt_list, bt_list, ByteArray.data_append, Array.toList_append, List.getD_eq_getElem?_getD, List.getD_eq_getElem?_getD, List.getElem?_append_right (by rw [len_list]; omega), len_list, Nat.add_sub_cancel_left]
theorem ext_left (a b : ByteArray) (i j : Nat) (h : j ≤ a.size) : (a ++ b).extract i j = a.extract i j := by
  apply ByteArray.ext
  apply Array.toList_inj.mp
  rw [ext_list, ext_list, ByteArray.data_append, Array.toList_append]
  by_cases hi : i ≤ a.size
  · rw [List.drop_append_of_le_length (by rw [len_list]; exact hi), List.take_append_of_le_length (by rw [List.length_drop, len_list]; omega)]
  · rw [show j - i = 0 by omega]; rfl
theorem ext_right (a b : ByteArray) (i j : Nat) : (a ++ b).extract (a.size + i) (a.size + j) = b.extract i j := by
  apply ByteArray.ext
  apply Array.toList_inj.mp
  rw [ext_list, ext_list, ByteArray.data_append, Array.toList_append, show a.size + j - (a.size + i) = j - i by omega, List.drop_append, List.drop_of_length_le (by rw [len_list]; omega), len_list, List.nil_append, Nat.add_sub_cancel_left]
theorem run_left (a x : ByteArray) {L : List S59} {last : Int} {p : Nat} {R Q : List S59} (h : Run a L last p R) (hp : p ≤ a.size) (hc : ∀ last, Run (a ++ x) R last a.size Q) : Run (a ++ x) L last p Q := by
  induction h with
  | done l last p h =>
    obtain rfl : p = a.size := by omega
    exact hc last
  | step l last p R h hb hk hn ih =>
    have hsz : (a ++ x).size = a.size + x.size := by simp
    obtain ⟨g1, g2, g3⟩ := decode_same a (a ++ x) p p h (by omega) hb (by omega) (fun i hi => bt_left a x (p + i) hi)
    have hle := nx_le a p h
    have ek : kd (a ++ x) p = kd a p := by unfold kd; rw [g2]
    have en : nx (a ++ x) p = nx a p := by unfold nx; rw [g3]
    have et : tx (a ++ x) p = tx a p := by
      unfold tx
      rw [g3]
      exact ext_left a x _ _ hle
    have eN : nextL (a ++ x) l last p = nextL a l last p := by unfold nextL; rw [ek, et]
    refine .step l last p Q (by omega) g1 (by rw [ek]; exact hk) ?_
    rw [eN, ek, en]
    exact ih hle hc
theorem lastP_right (l m : List S59) (h : m.length ≠ 0) : lastP (l ++ m) = lastP m := by
  unfold lastP rd_T59
  have e1 : (((l ++ m).length : Int) - 1).toNat = l.length + (m.length - 1) := by rw [List.length_append]; omega
  have e2 : ((m.length : Int) - 1).toNat = m.length - 1 := by omega
  rw [e1, e2, List.getD_eq_getElem?_getD, List.getD_eq_getElem?_getD, List.getElem?_append_right (by omega), Nat.add_sub_cancel_left]
theorem lastP_map (m : List S59) (d : Int) (h : m.length ≠ 0) : lastP (m.map (shP d)) = shP d (lastP m) := by
  unfold lastP rd_T59
  have e2 : ((m.length : Int) - 1).toNat = m.length - 1 := by omega
  rw [List.length_map, e2, List.getD_eq_getElem?_getD, List.getD_eq_getElem?_getD, List.getElem?_map, List.getElem?_eq_getElem (by omega)]
  rfl
theorem run_right (a b : ByteArray) (l : List S59) {L : List S59} {last : Int} {p : Nat} {R : List S59} (h : Run b L last p R) (hp : p ≤ b.size) (hI : last ≠ 0 → L.length ≠ 0) : Run (a ++ b) (l ++ L.map (shP a.size)) last (a.size + p) (l ++ R.map (shP a.size)) := by
  have hsz : (a ++ b).size = a.size + b.size := by simp
  induction h with
  | done L last p h => exact .done _ _ _ (by omega)
  | step L last p R h hb hk hn ih =>
    obtain ⟨g1, g2, g3⟩ := decode_same b (a ++ b) p (a.size + p) h (by omega) hb (by omega) (fun i hi => by rw [Nat.add_assoc]; exact bt_right a b (p + i))
    have hle := nx_le b p h
    have ek : kd (a ++ b) (a.size + p) = kd b p := by unfold kd; rw [g2]
    have en : nx (a ++ b) (a.size + p) = a.size + nx b p := by unfold nx; rw [g3]; omega
    have et : tx (a ++ b) (a.size + p) = tx b p := by
      unfold tx
      rw [g3, Nat.add_assoc]
      exact ext_right a b _ _
    have eI : kd b p ≠ 0 → (nextL b L last p).length ≠ 0 := by
      intro h0
      unfold nextL
      rw [if_neg h0]
      split
      · rename_i h1
        rw [List.length_set]
        exact hI (by rw [← h1.1]; exact h0)
      · simp
    have eN : nextL (a ++ b) (l ++ L.map (shP a.size)) last (a.size + p) = l ++ (nextL b L last p).map (shP a.size) := by
      unfold nextL
      rw [ek, et]
      by_cases h0 : kd b p = 0
      · rw [if_pos h0, if_pos h0]
      · rw [if_neg h0, if_neg h0]
        by_cases h1 : kd b p = last ∧ kd b p ≠ 3
        · rw [if_pos h1, if_pos h1]
          have hL := hI (by rw [← h1.1]; exact h0)
          rw [lastP_right _ _ (by rw [List.length_map]; exact hL), lastP_map _ _ hL, List.length_append, List.length_map, List.set_append_right _ _ (by omega), show l.length + L.length - 1 - l.length = L.length - 1 by omega]
          congr 1
          rw [List.map_set]
          rfl
        · rw [if_neg h1, if_neg h1, List.map_append, List.append_assoc]
          congr 2
          show [(⟨kd b p, tx b p, ((a.size + p : Nat) : Int)⟩ : S59)] = [(⟨kd b p, tx b p, (p : Int) + (a.size : Int)⟩ : S59)]
          rw [Int.natCast_add, Int.add_comm]
    refine .step _ last _ _ (by omega) g1 (by rw [ek]; exact hk) ?_
    rw [eN, ek, en]
    exact ih hle eI
end Go.Proofs.YtnjoncbgekonbaaDoor.PExpr
end
section
namespace Go.Proofs.YtnjoncbgekonbaaDoor.PExpr
open Go.RowKit Go.Proofs.YtnjoncbgekonbaaDoor.Utf Go.Proofs.YtnjoncbgekonbaaDoorW.PrintWords Go.Proofs.YtnjoncbgekonbaaDoorW.PrintLast Go.Proofs.YtnjoncbgekonbaaDoorW.PrintMore
set_option linter.unusedVariables false
set_option linter.unusedSimpArgs false
theorem next_swap (S : ByteArray) (l : List Pt) (p : Nat) : nextL S l 3 p = nextL S l 0 p := by
  unfold nextL
  by_cases h0 : kd S p = 0
  · rw [if_pos h0, if_pos h0]
  · rw [if_neg h0, if_neg h0, if_neg (fun h => h.2 h.1), if_neg (fun h => h0 h.1)]
theorem run_swap {S : ByteArray} {l R : List Pt} {p : Nat} (h : Run S l 0 p R) : Run S l 3 p R := by
  cases h with
  | done l last p h => exact .done _ _ _ h
  | step l last p R h hb hk hn => exact .step _ _ _ _ h hb hk (by rw [next_swap]; exact hn)
theorem append_assoc3 (a b c : ByteArray) : a ++ b ++ c = a ++ (b ++ c) := by
  apply ByteArray.ext
  simp
theorem byte_at (A x : ByteArray) (c : UInt8) (hc : c.toNat < 128) : A.size < (A ++ ((⟨#[c]⟩ : ByteArray) ++ x)).size ∧ ¬ Bad (A ++ ((⟨#[c]⟩ : ByteArray) ++ x)) A.size ∧ kd (A ++ ((⟨#[c]⟩ : ByteArray) ++ x)) A.size = kindR (c.toNat : Int) ∧ nx (A ++ ((⟨#[c]⟩ : ByteArray) ++ x)) A.size = A.size + 1 ∧ tx (A ++ ((⟨#[c]⟩ : ByteArray) ++ x)) A.size = ⟨#[c]⟩ := by
  have hlt : A.size < (A ++ ((⟨#[c]⟩ : ByteArray) ++ x)).size := by
    have e : (⟨#[c]⟩ : ByteArray).size = 1 := rfl
    rw [ByteArray.size_append, ByteArray.size_append, e]
    omega
  have hbt : bt (A ++ ((⟨#[c]⟩ : ByteArray) ++ x)) (A.size : Nat) = (c.toNat : Int) := by
    have e := bt_right A ((⟨#[c]⟩ : ByteArray) ++ x) 0
    rw [Nat.add_zero] at e
    rw [e, bt_list, ByteArray.data_append, Array.toList_append]
    rfl
  obtain ⟨h1, h2⟩ := kd_low _ A.size hlt (by omega)
  refine ⟨hlt, fun h => by have := h.1; omega, by rw [h1, hbt], h2, ?_⟩
  have h3 : A.size + (Utf8.decode (A ++ ((⟨#[c]⟩ : ByteArray) ++ x)) A.size).2 = A.size + 1 := h2
  unfold tx
  rw [h3]
  have e := ext_right A ((⟨#[c]⟩ : ByteArray) ++ x) 0 1
  rw [Nat.add_zero] at e
  rw [e, ext_left _ _ _ _ (Nat.le_refl 1)]
  rfl
theorem run_sign (A x : ByteArray) (c : UInt8) (hc : c.toNat < 128) (hk : kindR (c.toNat : Int) = 3) {R m : List Pt} (hA : Run A [] 0 0 R) (hx : Run x [] 0 0 m) : Run (A ++ ((⟨#[c]⟩ : ByteArray) ++ x)) [] 0 0 (R ++ (⟨3, ⟨#[c]⟩, A.size⟩ :: m.map (shP (A.size + 1 : Nat)))) := by
  refine run_left A _ hA (Nat.zero_le _) (fun last => ?_)
  obtain ⟨h1, h2, h3, h4, h5⟩ := byte_at A x c hc
  rw [hk] at h3
  have hN : nextL (A ++ ((⟨#[c]⟩ : ByteArray) ++ x)) R last A.size = R ++ [⟨3, ⟨#[c]⟩, A.size⟩] := by
    unfold nextL
    rw [h3, if_neg (by decide), if_neg (fun h => h.2 rfl), h5]
  refine .step _ _ _ _ h1 h2 (by rw [h3]; decide) ?_
  rw [hN, h3, h4]
  refine run_swap ?_
  have h6 := run_right (A ++ (⟨#[c]⟩ : ByteArray)) x (R ++ [⟨3, ⟨#[c]⟩, A.size⟩]) hx (Nat.zero_le _) (fun h => absurd rfl h)
  have e : (A ++ (⟨#[c]⟩ : ByteArray)).size = A.size + 1 := by rw [ByteArray.size_append]; rfl
  rw [e, append_assoc3, List.map_nil, List.append_nil, List.append_assoc, Nat.add_zero] at h6
  exact h6
theorem run_blank (A x : ByteArray) (c : UInt8) (hc : c.toNat < 128) (hk : kindR (c.toNat : Int) = 0) {R m : List Pt} (hA : Run A [] 0 0 R) (hx : Run x [] 0 0 m) : Run (A ++ ((⟨#[c]⟩ : ByteArray) ++ x)) [] 0 0 (R ++ m.map (shP (A.size + 1 : Nat))) := by
  refine run_left A _ hA (Nat.zero_le _) (fun last => ?_)
  obtain ⟨h1, h2, h3, h4, h5⟩ := byte_at A x c hc
  rw [hk] at h3
  have hN : nextL (A ++ ((⟨#[c]⟩ : ByteArray) ++ x)) R last A.size = R := by
    unfold nextL
    rw [h3, if_pos rfl]
  refine .step _ _ _ _ h1 h2 (by rw [h3]; decide) ?_
  rw [hN, h3, h4]
  have h6 := run_right (A ++ (⟨#[c]⟩ : ByteArray)) x R hx (Nat.zero_le _) (fun h => absurd rfl h)
  have e : (A ++ (⟨#[c]⟩ : ByteArray)).size = A.size + 1 := by rw [ByteArray.size_append]; rfl
  rw [e, append_assoc3, List.map_nil, List.append_nil, Nat.add_zero] at h6
  exact h6
def noS : ByteArray := ⟨#[]⟩
theorem run_no : Run noS [] 0 0 [] := .done _ _ _ (Nat.le_refl _)
theorem noS_left (a : ByteArray) : noS ++ a = a := by
  apply ByteArray.ext
  simp [noS]
theorem noS_right (a : ByteArray) : a ++ noS = a := by
  apply ByteArray.ext
  simp [noS]
theorem split_of_run {s : ByteArray} {l : List Pt} (hs : s.size ≤ 2048) (h : Run s [] 0 0 l) : word_Split.f s = some (l, 0, 0) := by
  unfold word_Split.f
  rw [if_neg (by omega)]
  exact sp_run s hs h _ (by omega) ⟨fun h => absurd rfl h, fun x hx => by cases hx⟩
theorem run_first (x : ByteArray) (c : UInt8) (hc : c.toNat < 128) (hk : kindR (c.toNat : Int) = 3) {m : List Pt} (hx : Run x [] 0 0 m) : Run ((⟨#[c]⟩ : ByteArray) ++ x) [] 0 0 (⟨3, ⟨#[c]⟩, 0⟩ :: m.map (shP 1)) := by
  have h := run_sign noS x c hc hk run_no hx
  rw [noS_left, List.nil_append] at h
  exact h
theorem run_gap (x : ByteArray) (c : UInt8) (hc : c.toNat < 128) (hk : kindR (c.toNat : Int) = 0) {m : List Pt} (hx : Run x [] 0 0 m) : Run ((⟨#[c]⟩ : ByteArray) ++ x) [] 0 0 (m.map (shP 1)) := by
  have h := run_blank noS x c hc hk run_no hx
  rw [noS_left, List.nil_append] at h
  exact h
theorem run_end (A : ByteArray) (c : UInt8) (hc : c.toNat < 128) (hk : kindR (c.toNat : Int) = 3) {R : List Pt} (hA : Run A [] 0 0 R) : Run (A ++ (⟨#[c]⟩ : ByteArray)) [] 0 0 (R ++ [⟨3, ⟨#[c]⟩, A.size⟩]) := by
  have h := run_sign A noS c hc hk hA run_no
  rw [noS_right, List.map_nil] at h
  exact h
theorem map_shP (a b : Int) (l : List Pt) : (l.map (shP a)).map (shP b) = l.map (shP (a + b)) := by
  rw [List.map_map]
  congr 1
  funext p
  show (⟨p.f0, p.f1, p.f2 + a + b⟩ : Pt) = ⟨p.f0, p.f1, p.f2 + (a + b)⟩
  rw [Int.add_assoc]
theorem run_brackets {s : ByteArray} {l : List Pt} (h : Run s [] 0 0 l) : Run (sOpen ++ s ++ sShut) [] 0 0 (⟨3, sOpen, 0⟩ :: (l.map (shP 1) ++ [⟨3, sShut, s.size + 1⟩])) := by
  have h1 := run_first _ 40 (by decide) (by decide) (run_end s 41 (by decide) (by decide) h)
  rw [List.map_append] at h1
  rw [append_assoc3]
  exact h1
def sGap : ByteArray := ⟨#[32]⟩
theorem run_sum {a b : ByteArray} {l m : List Pt} (ha : Run a [] 0 0 l) (hb : Run b [] 0 0 m) : Run (sOpen ++ (a ++ (sShut ++ (sGap ++ (sPlus ++ (sGap ++ (sOpen ++ (b ++ sShut)))))))) [] 0 0
    (⟨3, sOpen, 0⟩ :: (l.map (shP 1) ++ (⟨3, sShut, a.size + 1⟩ :: ⟨3, sPlus, a.size + 3⟩ :: ⟨3, sOpen, a.size + 5⟩ :: (m.map (shP (a.size + 6)) ++ [⟨3, sShut, a.size + 6 + b.size⟩])))) := by
  have h1 := run_end b 41 (by decide) (by decide) hb
  have h2 := run_first _ 40 (by decide) (by decide) h1
  have h3 := run_gap _ 32 (by decide) (by decide) h2
  have h4 := run_first _ 43 (by decide) (by decide) h3
  have h5 := run_gap _ 32 (by decide) (by decide) h4
  have h6 := run_sign a _ 41 (by decide) (by decide) ha h5
  have h7 := run_first _ 40 (by decide) (by decide) h6
  refine (congrArg (Run _ [] 0 0) ?_).mp h7
  simp only [List.map_append, List.map_cons, List.map_nil, map_shP, shP]
  have e1 : ((a.size + 1 : Nat) : Int) = (a.size : Int) + 1 := rfl
  rw [e1]
  have e2 : (1 : Int) + 1 + 1 + 1 + ((a.size : Int) + 1) + 1 = (a.size : Int) + 6 := by omega
  have e3 : (b.size : Int) + 1 + 1 + 1 + 1 + ((a.size : Int) + 1) + 1 = (a.size : Int) + 6 + b.size := by omega
  have e4 : (0 : Int) + 1 + 1 + 1 + ((a.size : Int) + 1) + 1 = (a.size : Int) + 5 := by omega
  have e5 : (0 : Int) + 1 + ((a.size : Int) + 1) + 1 = (a.size : Int) + 3 := by omega
  rw [e2, e3, e4, e5]
  rfl
end Go.Proofs.YtnjoncbgekonbaaDoor.PExpr
end
section
namespace Go.Proofs.YtnjoncbgekonbaaDoor.PExpr
open Go.RowKit Go.Proofs.YtnjoncbgekonbaaDoorW.PrintWords Go.Proofs.YtnjoncbgekonbaaDoorW.PrintLast Go.Proofs.YtnjoncbgekonbaaDoorW.PrintMore
set_option linter.unusedVariables false
set_option linter.unusedSimpArgs false
theorem split_some (s : ByteArray) : ∃ l x y, word_Split.f s = some (l, x, y) ∧ ((y = 0 ∧ Full l) ∨ (y = 21 ∧ 0 ≤ x ∧ x < s.size) ∨ (y = 3 ∧ x = 0)) := by
  unfold word_Split.f
  by_cases hs : s.size > 2048
  · rw [if_pos hs]
    exact ⟨_, _, _, rfl, Or.inr (Or.inr ⟨rfl, rfl⟩)⟩
  · rw [if_neg hs]
    obtain ⟨⟨l, x, y⟩, h⟩ := loop_some s (by omega) (s.size + 1) [] 0 0 (by omega) (Nat.zero_le _) (fun q hq => by cases hq) (Or.inl rfl)
    refine ⟨l, x, y, h, ?_⟩
    rcases loop_full s _ _ _ _ l x y h (fun q hq => by cases hq) with q | q
    · exact Or.inl q
    · exact Or.inr (Or.inl q)
end Go.Proofs.YtnjoncbgekonbaaDoor.PExpr
end
section
namespace Go.Proofs.YtnjoncbgekonbaaDoor.PExpr
open Go.RowKit Go.Proofs.YtnjoncbgekonbaaDoorW.PrintWords Go.Proofs.YtnjoncbgekonbaaDoorW.PrintLast Go.Proofs.YtnjoncbgekonbaaDoorW.PrintMore
set_option linter.unusedVariables false
set_option linter.unusedSimpArgs false
theorem parseS_good (s : ByteArray) : ∃ n pos why, parseS s = some (n, pos, why) ∧ ((why = 0 ∧ pos = 0 ∧ NdIn s.size n) ∨ (why ≠ 0 ∧ 0 ≤ pos ∧ pos ≤ s.size ∧ (why = 21 → pos < s.size))) := by
  obtain ⟨l, x, y, h, hc⟩ := split_some s
  unfold parseS
  rw [h]
  by_cases hy : y = 0
  · subst hy
    have hf : Full l := by
      rcases hc with q | q | q
      · exact q.2
      · omega
      · omega
    obtain ⟨hin, hle, hs⟩ := split_in h
    obtain ⟨R, h1, h2⟩ := lexL_good s (l.length + 1) [] l (by omega) (fun p hp => by
      have q1 := hin p hp
      have q2 := hf p hp
      exact ⟨q1.1, by have := q1.2; omega⟩) (fun t ht => by cases ht)
    show ∃ n pos why, ((lexL s (l.length + 1) [] l).bind _) = _ ∧ _
    rw [h1]
    cases R with
    | bad why pos => exact ⟨_, _, _, rfl, Or.inr ⟨by rw [h2.1]; decide, h2.2.1, by have := h2.2.2; omega, fun _ => h2.2.2⟩⟩
    | toks ts =>
      obtain ⟨n, pos, why, e, q⟩ := readP_good s ts h2.1 (by have := h2.2; simp at this; omega)
      refine ⟨n, pos, why, e, ?_⟩
      rcases q with q | q
      · exact Or.inl q
      · exact Or.inr ⟨by omega, q.2.1, q.2.2, fun w => by omega⟩
  · refine ⟨zeroN, x, y, if_pos hy, Or.inr ?_⟩
    rcases hc with q | q | q
    · exact absurd q.1 hy
    · exact ⟨hy, q.2.1, by omega, fun _ => q.2.2⟩
    · exact ⟨hy, by omega, by omega, fun w => by omega⟩
end Go.Proofs.YtnjoncbgekonbaaDoor.PExpr
end
section
namespace Go.Proofs.YtnjoncbgekonbaaDoor.PExpr
open Go.RowKit Go.Proofs.YtnjoncbgekonbaaDoor.Utf Go.Proofs.YtnjoncbgekonbaaDoorW.PrintWords Go.Proofs.YtnjoncbgekonbaaDoorW.PrintLast Go.Proofs.YtnjoncbgekonbaaDoorW.PrintMore
set_option linter.unusedVariables false
set_option linter.unusedSimpArgs false
theorem parseS_ok {s : ByteArray} {n : Nd} {pos : Int} (h : parseS s = some (n, pos, 0)) : ∃ (l : List Pt) (x : Int) (ts : List Tk) (e : Tk), word_Split.f s = some (l, x, 0) ∧ (∀ p, p ∈ l → PartIn s p) ∧ l.length ≤ s.size ∧ lexL s (l.length + 1) [] l = some (.toks ts) ∧ (∀ t, t ∈ ts → TkIn s t) ∧ ts.length ≤ l.length ∧ e.f0 = 4 ∧ parse 5000 0 0 (ts ++ [lastT s]) = some (.ok n [e]) := by
  obtain ⟨l, x, y, h0, hc⟩ := split_some s
  unfold parseS at h
  rw [h0] at h
  by_cases hy : y = 0
  · subst hy
    have hf : Full l := by
      rcases hc with q | q | q
      · exact q.2
      · omega
      · omega
    obtain ⟨hin, hle, hs⟩ := split_in h0
    obtain ⟨R, h1, h2⟩ := lexL_good s (l.length + 1) [] l (by omega) (fun p hp => by
      have q1 := hin p hp
      have q2 := hf p hp
      exact ⟨q1.1, by have := q1.2; omega⟩) (fun t ht => by cases ht)
    have h' : ((lexL s (l.length + 1) [] l).bind fun R => match R with
      | .bad why pos => some (zeroN, pos, why)
      | .toks l => readP (l ++ [lastT s])) = some (n, pos, 0) := h
    rw [h1] at h'
    cases R with
    | bad why pos =>
      have e : some (zeroN, pos, why) = some (n, _, 0) := h'
      simp only [Option.some.injEq, Prod.mk.injEq] at e
      have := h2.1
      omega
    | toks ts =>
      have h3 : readP (ts ++ [lastT s]) = some (n, pos, 0) := h'
      have hlen : ts.length ≤ l.length := by have := h2.2; simpa using this
      have hT := tks_last s ts h2.1
      have hg := parse_places (len := s.size) 5000 0 0 (ts ++ [lastT s]) (Nat.le_refl _) (by decide) (by decide) (by decide) (by rw [List.length_append, List.length_singleton]; have : (21 - (0 : Int)).toNat = 21 := rfl; omega) hT
      unfold readP at h3
      cases hR : parse 5000 0 0 (ts ++ [lastT s]) with
      | none => rw [hR] at hg; exact hg.elim
      | some R =>
        rw [hR] at hg h3
        cases R with
        | bad why q =>
          have e : some (zeroN, q, why) = some (n, pos, 0) := h3
          simp only [Option.some.injEq, Prod.mk.injEq] at e
          have := hg.2.2
          omega
        | ok m r =>
          cases r with
          | nil => exact absurd rfl hg.2.1.ne
          | cons t r =>
            have h4 : (if t.f0 ≠ 4 then some (zeroN, t.f2, (30 : Int)) else some (m, 0, 0)) = some (n, pos, 0) := h3
            by_cases ht : t.f0 = 4
            · rw [if_neg (fun q => q ht)] at h4
              simp only [Option.some.injEq, Prod.mk.injEq] at h4
              obtain ⟨e1, _, _⟩ := h4
              have er : r = [] := by
                have hk := hg.2.1
                cases hk with
                | fin _ _ _ _ => rfl
                | more _ _ q => exact absurd ht q
              subst er
              rw [e1] at hR
              exact ⟨l, x, ts, t, h0, hin, hle, h1, h2.1, hlen, ht, hR⟩
            · rw [if_pos ht] at h4
              simp at h4
  · have e : some (zeroN, x, y) = some (n, pos, 0) := by
      rw [← h]
      exact (if_pos hy).symm
    simp only [Option.some.injEq, Prod.mk.injEq] at e
    exact absurd e.2.2 hy
theorem parseS_of {S : ByteArray} {P : List Pt} {x : Int} {T : List Tk} (h0 : word_Split.f S = some (P, x, 0)) (h1 : lexL S (P.length + 1) [] P = some (.toks T)) : parseS S = readP (T ++ [lastT S]) := by
  unfold parseS
  rw [h0]
  show ((lexL S (P.length + 1) [] P).bind _) = _
  rw [h1]
  rfl
theorem readP_ok {L : List Tk} {m : Nd} {e : Tk} (h : parse 5000 0 0 L = some (.ok m [e])) (he : e.f0 = 4) : readP L = some (m, 0, 0) := by
  unfold readP
  rw [h]
  exact if_neg (fun q => q he)
theorem readP_bad {L : List Tk} {w p : Int} (h : parse 5000 0 0 L = some (.bad w p)) : readP L = some (zeroN, p, w) := by
  unfold readP
  rw [h]
  rfl
theorem sm_map (z : List Tk) (d : Int) (e : Tk) (he : e.f0 = 4) : ∀ (ts : List Tk), (∀ t, t ∈ ts → t.f0 ≠ 4) → Sm z (ts ++ [e]) (ts.map (shT d) ++ z)
  | [], _ => .fin e he
  | t :: ts, h => .more t _ _ _ (h t (by simp)) rfl rfl (sm_map z d e he ts fun u hu => h u (List.mem_cons_of_mem _ hu))
theorem parse_total (S : ByteArray) (L : List Tk) (hL : ∀ t, t ∈ L → TkIn S t) (hlen : L.length ≤ 4000) : ∃ x, parse 4990 0 1 (L ++ [lastT S]) = some x := by
  have hg := parse_places (len := S.size) 4990 0 1 (L ++ [lastT S]) (by decide) (by decide) (by decide) (by decide) (by rw [List.length_append, List.length_singleton]; have : (21 - (1 : Int)).toNat = 20 := rfl; omega) (tks_last S L hL)
  cases hR : parse 4990 0 1 (L ++ [lastT S]) with
  | none => rw [hR] at hg; exact hg.elim
  | some R => exact ⟨R, rfl⟩
theorem hasQ_shut (x : ByteArray) : hasQ (sShut ++ x) = false := by
  unfold hasQ
  have e : (sShut ++ x).size = 1 + x.size := by rw [ByteArray.size_append]; rfl
  rw [if_pos (by omega), extract_app sShut x 1 (Nat.le_refl 1)]
  decide +kernel
theorem brackets_parse {s : ByteArray} {n : Nd} {pos : Int} (h : parseS s = some (n, pos, 0)) (hs : s.size + 2 ≤ 2048) : ∃ m pos' why, parseS (sOpen ++ s ++ sShut) = some (m, pos', why) ∧ ((why = 0 ∧ strip m = strip n) ∨ why = 31) := by
  obtain ⟨l, x, ts, e, h0, hin, hle, h1, h2, hlen, he, hp⟩ := parseS_ok h
  have hsz : (sOpen ++ s ++ sShut).size = s.size + 2 := by
    rw [ByteArray.size_append, ByteArray.size_append]
    have e1 : sOpen.size = 1 := rfl
    have e2 : sShut.size = 1 := rfl
    omega
  have hsp := split_of_run (by omega) (run_brackets (split_run h0).2)
  have hz : Behind (sOpen.size + s.size : Nat) [(⟨3, sShut, s.size + 1⟩ : Pt)] := by
    refine ⟨⟨_, _, rfl, rfl, rfl⟩, fun q hq => ?_⟩
    rw [List.mem_singleton.1 hq]
    have e1 : sOpen.size = 1 := rfl
    show ((sOpen.size + s.size : Nat) : Int) ≤ (s.size : Int) + 1
    omega
  obtain ⟨ts0, g, e0, hg, hlx⟩ := lex_emb sOpen s sShut (by have := hasQ_shut noS; rwa [noS_right] at this) _ hz (l.length + 1) [] l ts hin h1
  rw [List.nil_append] at e0
  subst e0
  obtain ⟨r, hr⟩ : ∃ r, l.length = g + r := ⟨l.length - g, by omega⟩
  have e1 : (sOpen.size : Int) = 1 := rfl
  rw [e1] at hlx
  have hlex : lexL (sOpen ++ s ++ sShut) ((⟨3, sOpen, 0⟩ :: (l.map (shP 1) ++ [(⟨3, sShut, s.size + 1⟩ : Pt)])).length + 1) [] (⟨3, sOpen, 0⟩ :: (l.map (shP 1) ++ [(⟨3, sShut, s.size + 1⟩ : Pt)])) = some (.toks (⟨3, sOpen, 0⟩ :: (ts.map (shT 1) ++ [⟨3, sShut, s.size + 1⟩]))) := by
    have hn : (⟨3, sOpen, 0⟩ :: (l.map (shP 1) ++ [(⟨3, sShut, s.size + 1⟩ : Pt)])).length + 1 = (r + 1 + 1 + g) + 1 := by
      rw [List.length_cons, List.length_append, List.length_map, List.length_singleton]
      omega
    rw [hn]
    have a1 := lex_sign (sOpen ++ s ++ sShut) 40 0 (by decide) (r + 1 + 1 + g) [] (l.map (shP 1) ++ [(⟨3, sShut, s.size + 1⟩ : Pt)])
    have a2 := hlx (r + 1 + 1) ([] ++ [⟨3, ⟨#[40]⟩, 0⟩])
    have a3 := lex_sign (sOpen ++ s ++ sShut) 41 (s.size + 1) (by decide) (r + 1) ([] ++ [⟨3, ⟨#[40]⟩, 0⟩] ++ ts.map (shT 1)) []
    exact a1.trans (a2.trans (a3.trans (by rw [lexL, List.nil_append, List.append_assoc]; rfl)))
  have hpp := parseS_of hsp hlex
  have hTk : ∀ t, t ∈ ts.map (shT 1) ++ [(⟨3, sShut, s.size + 1⟩ : Tk)] → TkIn (sOpen ++ s ++ sShut) t := by
    intro t ht
    rcases List.mem_append.1 ht with q | q
    · obtain ⟨t', ht', rfl⟩ := List.mem_map.1 q
      obtain ⟨q1, q2, q3⟩ := h2 t' ht'
      exact ⟨q1, by show 0 ≤ t'.f2 + 1; omega, by show t'.f2 + 1 < ((sOpen ++ s ++ sShut).size : Nat); omega⟩
    · rw [List.mem_singleton.1 q]
      exact ⟨by show (3 : Int) ≠ 4; decide, by show 0 ≤ (s.size : Int) + 1; omega, by show (s.size : Int) + 1 < ((sOpen ++ s ++ sShut).size : Nat); omega⟩
  obtain ⟨X, hX⟩ := parse_total _ _ hTk (by rw [List.length_append, List.length_map, List.length_singleton]; omega)
  have hsm := sm_map [(⟨3, sShut, s.size + 1⟩ : Tk), lastT (sOpen ++ s ++ sShut)] 1 (lastT s) rfl ts (fun t ht => (h2 t ht).1)
  have hw := whole_brackets (t := ⟨3, sOpen, 0⟩) (k' := 4990) rfl rfl rfl rfl rfl hsm hp he ⟨X, by rw [List.append_assoc] at hX; exact hX⟩
  have eL : (⟨3, sOpen, 0⟩ :: (ts.map (shT 1) ++ [(⟨3, sShut, s.size + 1⟩ : Tk)])) ++ [lastT (sOpen ++ s ++ sShut)] = ⟨3, sOpen, 0⟩ :: (ts.map (shT 1) ++ [(⟨3, sShut, s.size + 1⟩ : Tk), lastT (sOpen ++ s ++ sShut)]) := by
    rw [List.cons_append, List.append_assoc]
    rfl
  rw [hpp, eL]
  rcases hw with ⟨n', hn, q⟩ | ⟨p, q⟩
  · exact ⟨n', 0, 0, readP_ok q rfl, .inl ⟨rfl, hn⟩⟩
  · exact ⟨zeroN, p, 31, readP_bad q, .inr rfl⟩
def sumS (a b : ByteArray) : ByteArray := sOpen ++ (a ++ (sShut ++ (sGap ++ (sPlus ++ (sGap ++ (sOpen ++ (b ++ sShut)))))))
theorem sumS_left (a b : ByteArray) : sumS a b = sOpen ++ a ++ (sShut ++ (sGap ++ (sPlus ++ (sGap ++ (sOpen ++ (b ++ sShut)))))) := by
  unfold sumS
  rw [append_assoc3]
theorem sumS_right (a b : ByteArray) : sumS a b = (sOpen ++ (a ++ (sShut ++ (sGap ++ (sPlus ++ (sGap ++ sOpen)))))) ++ b ++ sShut := by
  unfold sumS
  apply ByteArray.ext
  simp
theorem sumS_size (a b : ByteArray) : (sumS a b).size = a.size + b.size + 7 := by
  unfold sumS
  simp only [ByteArray.size_append]
  have e1 : sOpen.size = 1 := rfl
  have e2 : sShut.size = 1 := rfl
  have e3 : sGap.size = 1 := rfl
  have e4 : sPlus.size = 1 := rfl
  omega
theorem sum_parse {a b : ByteArray} {n y : Nd} {p1 p2 : Int} (ha : parseS a = some (n, p1, 0)) (hb : parseS b = some (y, p2, 0)) (hs : a.size + b.size + 7 ≤ 2048) : ∃ m pos' why, parseS (sumS a b) = some (m, pos', why) ∧ ((why = 0 ∧ ∃ n' y' q, m = ⟨8, sPlus, [n', y'], q⟩ ∧ strip n' = strip n ∧ strip y' = strip y) ∨ why = 31) := by
  obtain ⟨l, x, ts, e, h0, hin, hle, h1, h2, hlen, he, hp⟩ := parseS_ok ha
  obtain ⟨m, x', us, f, g0, gin, gle, g1, g2, glen, gf, gp⟩ := parseS_ok hb
  have hsz := sumS_size a b
  have hsp := split_of_run (by omega) (show Run (sumS a b) [] 0 0 _ from run_sum (split_run h0).2 (split_run g0).2)
  generalize hZ2 : ([(⟨3, sShut, (a.size : Int) + 6 + b.size⟩ : Pt)]) = Z2 at hsp
  generalize hZ1 : ((⟨3, sShut, (a.size : Int) + 1⟩ : Pt) :: ⟨3, sPlus, (a.size : Int) + 3⟩ :: ⟨3, sOpen, (a.size : Int) + 5⟩ :: (m.map (shP ((a.size : Int) + 6)) ++ Z2)) = Z1 at hsp
  have hA : (sOpen ++ (a ++ (sShut ++ (sGap ++ (sPlus ++ (sGap ++ sOpen)))))).size = a.size + 6 := by
    simp only [ByteArray.size_append]
    have e1 : sOpen.size = 1 := rfl
    have e2 : sShut.size = 1 := rfl
    have e3 : sGap.size = 1 := rfl
    have e4 : sPlus.size = 1 := rfl
    omega
  have hz1 : Behind (sOpen.size + a.size : Nat) Z1 := by
    have e1 : sOpen.size = 1 := rfl
    refine ⟨⟨_, _, hZ1.symm, rfl, rfl⟩, fun q hq => ?_⟩
    rw [← hZ1] at hq
    simp only [List.mem_cons, List.mem_append] at hq
    rcases hq with rfl | rfl | rfl | hq | hq
    · show ((sOpen.size + a.size : Nat) : Int) ≤ (a.size : Int) + 1
      omega
    · show ((sOpen.size + a.size : Nat) : Int) ≤ (a.size : Int) + 3
      omega
    · show ((sOpen.size + a.size : Nat) : Int) ≤ (a.size : Int) + 5
      omega
    · obtain ⟨p, hp', rfl⟩ := List.mem_map.1 hq
      have := (gin p hp').1
      show ((sOpen.size + a.size : Nat) : Int) ≤ p.f2 + ((a.size : Int) + 6)
      omega
    · rw [← hZ2] at hq
      rw [List.mem_singleton.1 hq]
      show ((sOpen.size + a.size : Nat) : Int) ≤ (a.size : Int) + 6 + b.size
      omega
  have hz2 : Behind ((sOpen ++ (a ++ (sShut ++ (sGap ++ (sPlus ++ (sGap ++ sOpen)))))).size + b.size : Nat) Z2 := by
    refine ⟨⟨_, _, hZ2.symm, rfl, rfl⟩, fun q hq => ?_⟩
    rw [← hZ2] at hq
    rw [List.mem_singleton.1 hq, hA]
    show ((a.size + 6 + b.size : Nat) : Int) ≤ (a.size : Int) + 6 + b.size
    omega
  obtain ⟨ts0, k1, e0, hk1, hlx1⟩ := lex_emb sOpen a _ (hasQ_shut _) Z1 hz1 (l.length + 1) [] l ts hin h1
  obtain ⟨us0, k2, f0, hk2, hlx2⟩ := lex_emb _ b sShut (by have := hasQ_shut noS; rwa [noS_right] at this) Z2 hz2 (m.length + 1) [] m us gin g1
  rw [List.nil_append] at e0 f0
  subst e0 f0
  rw [← sumS_left] at hlx1
  rw [← sumS_right] at hlx2
  obtain ⟨r1, hr1⟩ : ∃ r, l.length = k1 + r := ⟨l.length - k1, by omega⟩
  obtain ⟨r2, hr2⟩ : ∃ r, m.length = k2 + r := ⟨m.length - k2, by omega⟩
  have e1 : (sOpen.size : Int) = 1 := rfl
  rw [e1] at hlx1
  have e2 : ((sOpen ++ (a ++ (sShut ++ (sGap ++ (sPlus ++ (sGap ++ sOpen)))))).size : Int) = (a.size : Int) + 6 := by rw [hA]; rfl
  rw [e2] at hlx2
  have hlex : lexL (sumS a b) ((⟨3, sOpen, 0⟩ :: (l.map (shP 1) ++ Z1)).length + 1) [] (⟨3, sOpen, 0⟩ :: (l.map (shP 1) ++ Z1)) = some (.toks (⟨3, sOpen, 0⟩ :: (ts.map (shT 1) ++ (⟨3, sShut, (a.size : Int) + 1⟩ :: ⟨3, sPlus, (a.size : Int) + 3⟩ :: ⟨3, sOpen, (a.size : Int) + 5⟩ :: (us.map (shT ((a.size : Int) + 6)) ++ [⟨3, sShut, (a.size : Int) + 6 + b.size⟩]))))) := by
    have hn : (⟨3, sOpen, 0⟩ :: (l.map (shP 1) ++ Z1)).length + 1 = (r1 + r2 + 1 + 1 + k2 + 1 + 1 + 1 + k1) + 1 := by
      rw [List.length_cons, List.length_append, List.length_map, ← hZ1, List.length_cons, List.length_cons, List.length_cons, List.length_append, List.length_map, ← hZ2, List.length_singleton]
      omega
    rw [hn]
    have a1 := lex_sign (sumS a b) 40 0 (by decide) (r1 + r2 + 1 + 1 + k2 + 1 + 1 + 1 + k1) [] (l.map (shP 1) ++ Z1)
    have a2 := hlx1 (r1 + r2 + 1 + 1 + k2 + 1 + 1 + 1) ([] ++ [⟨3, ⟨#[40]⟩, 0⟩])
    refine a1.trans (a2.trans ?_)
    rw [← hZ1]
    have a3 := lex_sign (sumS a b) 41 ((a.size : Int) + 1) (by decide) (r1 + r2 + 1 + 1 + k2 + 1 + 1) ([] ++ [⟨3, ⟨#[40]⟩, 0⟩] ++ ts.map (shT 1)) (⟨3, sPlus, (a.size : Int) + 3⟩ :: ⟨3, sOpen, (a.size : Int) + 5⟩ :: (m.map (shP ((a.size : Int) + 6)) ++ Z2))
    refine a3.trans ?_
    have a4 := lex_sign (sumS a b) 43 ((a.size : Int) + 3) (by decide) (r1 + r2 + 1 + 1 + k2 + 1) ([] ++ [⟨3, ⟨#[40]⟩, 0⟩] ++ ts.map (shT 1) ++ [⟨3, ⟨#[41]⟩, (a.size : Int) + 1⟩]) (⟨3, sOpen, (a.size : Int) + 5⟩ :: (m.map (shP ((a.size : Int) + 6)) ++ Z2))
    refine a4.trans ?_
    have a5 := lex_sign (sumS a b) 40 ((a.size : Int) + 5) (by decide) (r1 + r2 + 1 + 1 + k2) ([] ++ [⟨3, ⟨#[40]⟩, 0⟩] ++ ts.map (shT 1) ++ [⟨3, ⟨#[41]⟩, (a.size : Int) + 1⟩] ++ [⟨3, ⟨#[43]⟩, (a.size : Int) + 3⟩]) (m.map (shP ((a.size : Int) + 6)) ++ Z2)
    refine a5.trans ?_
    refine (hlx2 (r1 + r2 + 1 + 1) _).trans ?_
    rw [← hZ2]
    refine (lex_sign (sumS a b) 41 ((a.size : Int) + 6 + b.size) (by decide) (r1 + r2 + 1) _ []).trans ?_
    rw [lexL]
    simp only [List.nil_append, List.append_assoc, List.cons_append]
    rfl
  have hpp := parseS_of hsp hlex
  have hTk2 : ∀ t, t ∈ us.map (shT ((a.size : Int) + 6)) ++ [(⟨3, sShut, (a.size : Int) + 6 + b.size⟩ : Tk)] → TkIn (sumS a b) t := by
    intro t ht
    rcases List.mem_append.1 ht with q | q
    · obtain ⟨t', ht', rfl⟩ := List.mem_map.1 q
      obtain ⟨q1, q2, q3⟩ := g2 t' ht'
      exact ⟨q1, by show 0 ≤ t'.f2 + ((a.size : Int) + 6); omega, by show t'.f2 + ((a.size : Int) + 6) < ((sumS a b).size : Nat); omega⟩
    · rw [List.mem_singleton.1 q]
      exact ⟨by show (3 : Int) ≠ 4; decide, by show 0 ≤ (a.size : Int) + 6 + b.size; omega, by show (a.size : Int) + 6 + b.size < ((sumS a b).size : Nat); omega⟩
  have hTk : ∀ t, t ∈ ts.map (shT 1) ++ ((⟨3, sShut, (a.size : Int) + 1⟩ : Tk) :: ⟨3, sPlus, (a.size : Int) + 3⟩ :: ⟨3, sOpen, (a.size : Int) + 5⟩ :: (us.map (shT ((a.size : Int) + 6)) ++ [⟨3, sShut, (a.size : Int) + 6 + b.size⟩])) → TkIn (sumS a b) t := by
    intro t ht
    rcases List.mem_append.1 ht with q | q
    · obtain ⟨t', ht', rfl⟩ := List.mem_map.1 q
      obtain ⟨q1, q2, q3⟩ := h2 t' ht'
      exact ⟨q1, by show 0 ≤ t'.f2 + 1; omega, by show t'.f2 + 1 < ((sumS a b).size : Nat); omega⟩
    · rcases List.mem_cons.1 q with rfl | q
      · exact ⟨by show (3 : Int) ≠ 4; decide, by show 0 ≤ (a.size : Int) + 1; omega, by show (a.size : Int) + 1 < ((sumS a b).size : Nat); omega⟩
      rcases List.mem_cons.1 q with rfl | q
      · exact ⟨by show (3 : Int) ≠ 4; decide, by show 0 ≤ (a.size : Int) + 3; omega, by show (a.size : Int) + 3 < ((sumS a b).size : Nat); omega⟩
      rcases List.mem_cons.1 q with rfl | q
      · exact ⟨by show (3 : Int) ≠ 4; decide, by show 0 ≤ (a.size : Int) + 5; omega, by show (a.size : Int) + 5 < ((sumS a b).size : Nat); omega⟩
      · exact hTk2 t q
  have hlu : us.length ≤ 2048 := by omega
  have hlt : ts.length ≤ 2048 := by omega
  obtain ⟨X, hX⟩ := parse_total _ _ hTk (by simp; omega)
  obtain ⟨Y, hY⟩ := parse_total _ _ hTk2 (by simp; omega)
  have hsm2 := sm_map [(⟨3, sShut, (a.size : Int) + 6 + b.size⟩ : Tk), lastT (sumS a b)] ((a.size : Int) + 6) (lastT b) rfl us (fun t ht => (g2 t ht).1)
  have hsm1 := sm_map ((⟨3, sShut, (a.size : Int) + 1⟩ : Tk) :: ⟨3, sPlus, (a.size : Int) + 3⟩ :: ⟨3, sOpen, (a.size : Int) + 5⟩ :: (us.map (shT ((a.size : Int) + 6)) ++ [(⟨3, sShut, (a.size : Int) + 6 + b.size⟩ : Tk), lastT (sumS a b)])) 1 (lastT a) rfl ts (fun t ht => (h2 t ht).1)
  have hw := whole_sum (t := ⟨3, sOpen, 0⟩) (k' := 4990) rfl rfl rfl rfl rfl rfl rfl rfl rfl rfl rfl hsm1 hsm2 hp he gp gf ⟨X, by
    simp only [List.append_assoc, List.cons_append, List.nil_append] at hX
    exact hX⟩ ⟨Y, by
    simp only [List.append_assoc, List.cons_append, List.nil_append] at hY
    exact hY⟩
  have eL : (⟨3, sOpen, 0⟩ :: (ts.map (shT 1) ++ ((⟨3, sShut, (a.size : Int) + 1⟩ : Tk) :: ⟨3, sPlus, (a.size : Int) + 3⟩ :: ⟨3, sOpen, (a.size : Int) + 5⟩ :: (us.map (shT ((a.size : Int) + 6)) ++ [⟨3, sShut, (a.size : Int) + 6 + b.size⟩])))) ++ [lastT (sumS a b)] = ⟨3, sOpen, 0⟩ :: (ts.map (shT 1) ++ ((⟨3, sShut, (a.size : Int) + 1⟩ : Tk) :: ⟨3, sPlus, (a.size : Int) + 3⟩ :: ⟨3, sOpen, (a.size : Int) + 5⟩ :: (us.map (shT ((a.size : Int) + 6)) ++ [(⟨3, sShut, (a.size : Int) + 6 + b.size⟩ : Tk), lastT (sumS a b)]))) := by
    simp only [List.append_assoc, List.cons_append, List.nil_append]
  rw [hpp, eL]
  rcases hw with ⟨n', y', hn, hy, q⟩ | ⟨p, q⟩
  · exact ⟨_, 0, 0, readP_ok q rfl, .inl ⟨rfl, n', y', _, rfl, hn, hy⟩⟩
  · exact ⟨zeroN, p, 31, readP_bad q, .inr rfl⟩
end Go.Proofs.YtnjoncbgekonbaaDoor.PExpr
end
