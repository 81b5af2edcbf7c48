/- What the claim of CardKindFinds needs, out of the session's texts, in their order. -/
import Derived.Test.YtfgogfdbjbnlbaaDoorKuD
import Derived.WalkSmall
import Derived.Handy
section
namespace Go.Proofs.YtfgogfdbjbnlbaaDoor.PExpr
open Go.RowKit Go.Proofs.YtfgogfdbjbnlbaaDoorW.PrintWords Go.Proofs.YtfgogfdbjbnlbaaDoorW.PrintLast Go.Proofs.YtfgogfdbjbnlbaaDoorW.PrintMore
set_option linter.unusedVariables false
set_option linter.unusedSimpArgs false
def stopV (why pos : Int) : Value := .iface 78 (.agg #[.int .i64 why, .int .i64 pos])
def Thrown (e : Ending) (why pos : Int) : Prop := e = .panicked [{ v := stopV why pos, recovered := false }]
set_option maxHeartbeats 1000000 in
set_option maxRecDepth 100000 in
theorem fail_calls (why pos : Int) (w : World) :
    Calls Tryd.prog 42 #[.int .i64 why, .int .i64 pos] w fun e w' => Thrown e why pos ∧ Below w.heap.size w w' := by
  go_enter Tryd.func42, Tryd.ntmps42
  go_wp2
  exact ⟨rfl, rfl, Below.refl _ _⟩
theorem head_cells {w : World} {T off : Nat} {t : Tk} {r : List Tk} (hC : Kd.C kTk w (some ⟨T, off, none⟩) (t :: r).length (t :: r)) :
    w.cell? ⟨T, off, none⟩ = some (.int .i64 t.f0) ∧ w.cell? ⟨T, off + 1, none⟩ = some (.string t.f1) ∧ w.cell? ⟨T, off + 2, none⟩ = some (.int .i64 t.f2) := by
  obtain ⟨ad, ead, x0, x1, x2⟩ := at_T87 hC 0 (by decide) (by simp)
  obtain rfl := Option.some.inj ead
  exact ⟨x0, x1, x2⟩
set_option maxHeartbeats 1000000 in
set_option maxRecDepth 100000 in
theorem take_last (g T : Nat) (w : World) (t : Tk) (r : List Tk) (d : Int) (hR : Rd g T w (t :: r) d) (h4 : t.f0 = 4) :
    Calls Tryd.prog 74 #[.pointer (some ⟨g, 0, none⟩)] w fun e w' => e = .returned (.agg #[.int .i64 t.f0, .string t.f1, .int .i64 t.f2]) ∧ Rd g T w' (t :: r) d ∧ Kept (fun k => k = g) w w' := by
  obtain ⟨off, c, h0, h1, z0, z1, hc, hT, hC⟩ := hR.cell
  obtain ⟨x0, x1, x2⟩ := head_cells hC
  have hg := hR.lt
  have hTl := toks_lt hC (by simp)
  have hg1 : ∀ k, g < w.heap.size + k := fun k => by omega
  have hT1 : ∀ k, T < w.heap.size + k := fun k => by omega
  go_enter Tryd.func74, Tryd.ntmps74
  go_wp2
  go_returns
  exact ⟨by rw [h4], (hR.alloc _).alloc _, by (repeat' (first | (with_reducible exact Kept.refl _ _) | (with_reducible assumption) | (with_reducible apply Kept.alloc) | (with_reducible apply Kept.drew) | (with_reducible apply Kept.drewN) | (with_reducible refine Kept.setCell ?_ _ _ _ ?_) | (with_reducible exact Or.inl rfl) | (left; assumption) | (right; simp; done) | (right; omega)))⟩
set_option maxHeartbeats 1000000 in
set_option maxRecDepth 100000 in
theorem take_one (g T : Nat) (w : World) (t : Tk) (r : List Tk) (d : Int) (hR : Rd g T w (t :: r) d) (h4 : t.f0 ≠ 4) (hr : r ≠ []) :
    Calls Tryd.prog 74 #[.pointer (some ⟨g, 0, none⟩)] w fun e w' => e = .returned (.agg #[.int .i64 t.f0, .string t.f1, .int .i64 t.f2]) ∧ Rd g T w' r d ∧ Kept (fun k => k = g) w w' := by
  obtain ⟨off, c, h0, h1, z0, z1, hc, hT, hC⟩ := hR.cell
  obtain ⟨x0, x1, x2⟩ := head_cells hC
  have hg := hR.lt
  have hTl := toks_lt hC (by simp)
  have hg1 : ∀ k, g < w.heap.size + k := fun k => by omega
  have hT1 : ∀ k, T < w.heap.size + k := fun k => by omega
  have h4' := eq_false h4
  go_enter Tryd.func74, Tryd.ntmps74
  go_wp2
  all_goals go_returns
  · exact absurd (show r.length = 0 by rw [List.length_cons] at hc; omega) (by simpa using hr)
  · exact ⟨rfl, ((hR.tail h0 hc).alloc _).alloc _, by (repeat' (first | (with_reducible exact Kept.refl _ _) | (with_reducible assumption) | (with_reducible apply Kept.alloc) | (with_reducible apply Kept.drew) | (with_reducible apply Kept.drewN) | (with_reducible refine Kept.setCell ?_ _ _ _ ?_) | (with_reducible exact Or.inl rfl) | (left; assumption) | (right; simp; done) | (right; omega)))⟩
end Go.Proofs.YtfgogfdbjbnlbaaDoor.PExpr
end
section
namespace Go.Proofs.YtfgogfdbjbnlbaaDoor.PExpr
open Go.RowKit Go.Proofs.YtfgogfdbjbnlbaaDoorW.PrintWords Go.Proofs.YtfgogfdbjbnlbaaDoorW.PrintLast Go.Proofs.YtfgogfdbjbnlbaaDoorW.PrintMore
set_option linter.unusedVariables false
set_option linter.unusedSimpArgs false
theorem toList_iff (a b : ByteArray) : a.toList = b.toList ↔ a = b := by
  rw [ByteArray.toList_eq, ByteArray.toList_eq]
  exact ⟨fun h => ByteArray.ext (Array.toList_inj.mp h), fun h => by rw [h]⟩
def hasB (l : List ByteArray) (s : ByteArray) : Bool := l.any fun x => s.data.toList == x.data.toList
theorem hasB_cons (x : ByteArray) (l : List ByteArray) (s : ByteArray) : hasB (x :: l) s = (s.data.toList == x.data.toList || hasB l s) := rfl
theorem index_from (l : List ByteArray) (s : ByteArray) (hl : l.length ≤ 4000000000) : ∀ d i : Nat, i + d = l.length → ∀ k, d < k →
    ∃ r, slices_Index_string_string.l0 k l s (l.length : Int) (i : Int) = some r ∧ (0 ≤ r ↔ hasB (l.drop i) s = true) := by
  intro d
  induction d with
  | zero =>
    intro i hd k hk
    obtain ⟨k, rfl⟩ : ∃ j, k = j + 1 := ⟨k - 1, by omega⟩
    refine ⟨-1, ?_, ?_⟩
    · rw [slices_Index_string_string.l0, if_neg (by omega)]
    · rw [List.drop_eq_nil_of_le (by omega)]
      simp [hasB]
  | succ d ih =>
    intro i hd k hk
    obtain ⟨k, rfl⟩ : ∃ j, k = j + 1 := ⟨k - 1, by omega⟩
    have hi : i < l.length := by omega
    have er : rdOf ByteArray.empty l (i : Int) = l[i] := by
      unfold rdOf
      rw [Int.toNat_natCast, List.getD_eq_getElem?_getD, List.getElem?_eq_getElem hi]
      rfl
    rw [slices_Index_string_string.l0, if_pos (by omega), if_pos (by omega), if_pos (by omega), er]
    rw [List.drop_eq_getElem_cons hi, hasB_cons]
    by_cases he : s.toList = l[i].toList
    · rw [if_pos he]
      exact ⟨i, rfl, by rw [toList_iff] at he; simp [← he]⟩
    · rw [if_neg he]
      have ew : wrap64 ((i : Int) + 1) = ((i + 1 : Nat) : Int) := by
        unfold wrap64
        omega
      rw [ew]
      obtain ⟨r, h1, h2⟩ := ih (i + 1) (by omega) k (by omega)
      refine ⟨r, h1, h2.trans ?_⟩
      rw [ByteArray.toList_eq, ByteArray.toList_eq] at he
      rw [show (s.data.toList == l[i].data.toList) = false from by simpa using he, Bool.false_or]
theorem contains_calls (A : Option Addr) (c : Nat) (l : List ByteArray) (s : ByteArray) (w : World) (hC : Kd.C Kd.string w A l.length l) (hc : l.length ≤ c) (hl : l.length ≤ 4000000000) :
    Calls Tryd.prog 57 #[.slice A l.length c, .string s] w fun e w' => e = .returned (.bool (hasB l s)) ∧ Drawn0 w w' := by
  obtain ⟨r, h1, h2⟩ := index_from l s hl l.length 0 (by omega) (l.length + 1) (by omega)
  refine slices_Contains_string_string.calls (l.length + 1) A c l s _ w hC hc ?_
  unfold slices_Contains_string_string.f slices_Index_string_string.f
  rw [show (0 : Int) = ((0 : Nat) : Int) from rfl, h1]
  rw [List.drop_zero] at h2
  rw [Option.bind_some]
  congr 1
  rw [Bool.eq_iff_iff]
  simpa using h2
set_option maxHeartbeats 1000000 in
set_option maxRecDepth 100000 in
theorem is_other (g T : Nat) (w : World) (t : Tk) (r : List Tk) (d : Int) (A : Option Addr) (cs : Nat) (ss : List ByteArray) (hR : Rd g T w (t :: r) d) (hS : Kd.C Kd.string w A ss.length ss) (hcs : ss.length ≤ cs) (hss : ss.length ≤ 4000000000)
    (h3 : t.f0 ≠ 3) (h1' : t.f0 ≠ 1) :
    Calls Tryd.prog 70 #[.pointer (some ⟨g, 0, none⟩), .slice A ss.length cs] w fun e w' => e = .returned (.tuple #[.agg #[.int .i64 t.f0, .string t.f1, .int .i64 t.f2], .bool false]) ∧ Rd g T w' (t :: r) d ∧ Kept (fun k => k = g) w w' := by
  obtain ⟨off, c, h0, h1, z0, z1, hc, hT, hC⟩ := hR.cell
  obtain ⟨x0, x1, x2⟩ := head_cells hC
  have hg := hR.lt
  have hTl := toks_lt hC (by simp)
  have hg1 : ∀ k, g < w.heap.size + k := fun k => by omega
  have hT1 : ∀ k, T < w.heap.size + k := fun k => by omega
  have h3' := eq_false h3
  have h1'' := eq_false h1'
  go_enter Tryd.func70, Tryd.ntmps70
  go_wp2
  all_goals go_returns
  exact ⟨rfl, (hR.alloc _).alloc _, by (repeat' (first | (with_reducible exact Kept.refl _ _) | (with_reducible assumption) | (with_reducible apply Kept.alloc) | (with_reducible apply Kept.drew) | (with_reducible apply Kept.drewN) | (with_reducible refine Kept.setCell ?_ _ _ _ ?_) | (with_reducible exact Or.inl rfl) | (left; assumption) | (right; simp; done) | (right; omega)))⟩
set_option maxHeartbeats 1000000 in
set_option maxRecDepth 100000 in
theorem is_no (g T : Nat) (w : World) (t : Tk) (r : List Tk) (d : Int) (A : Option Addr) (cs : Nat) (ss : List ByteArray) (hR : Rd g T w (t :: r) d) (hS : Kd.C Kd.string w A ss.length ss) (hcs : ss.length ≤ cs) (hss : ss.length ≤ 4000000000)
    (h3 : t.f0 = 3 ∨ t.f0 = 1) (hno : hasB ss t.f1 = false) :
    Calls Tryd.prog 70 #[.pointer (some ⟨g, 0, none⟩), .slice A ss.length cs] w fun e w' => e = .returned (.tuple #[.agg #[.int .i64 t.f0, .string t.f1, .int .i64 t.f2], .bool false]) ∧ Rd g T w' (t :: r) d ∧ Kept (fun k => k = g) w w' := by
  obtain ⟨off, c, h0, h1, z0, z1, hc, hT, hC⟩ := hR.cell
  obtain ⟨x0, x1, x2⟩ := head_cells hC
  have hg := hR.lt
  have hTl := toks_lt hC (by simp)
  have hg1 : ∀ k, g < w.heap.size + k := fun k => by omega
  have hT1 : ∀ k, T < w.heap.size + k := fun k => by omega
  rcases h3 with h3 | h3
  all_goals
    go_enter Tryd.func70, Tryd.ntmps70
    go_wp2_with (go_at_call 57; refine (contains_calls _ _ _ _ _ (Kd.C_alloc (Kd.C_alloc hS _) _) hcs hss).mono ?_; rintro e w' ⟨rfl, ⟨m, rfl⟩⟩; rw [hno])
    all_goals go_returns
    exact ⟨by rw [h3], hR.kept (S := fun _ => False) (by simp) (by (repeat' (first | (with_reducible exact Kept.refl _ _) | (with_reducible assumption) | (with_reducible apply Kept.alloc) | (with_reducible apply Kept.drew) | (with_reducible apply Kept.drewN) | (with_reducible refine Kept.setCell ?_ _ _ _ ?_) | (with_reducible exact Or.inl rfl) | (left; assumption) | (right; simp; done) | (right; omega)))) id id, by (repeat' (first | (with_reducible exact Kept.refl _ _) | (with_reducible assumption) | (with_reducible apply Kept.alloc) | (with_reducible apply Kept.drew) | (with_reducible apply Kept.drewN) | (with_reducible refine Kept.setCell ?_ _ _ _ ?_) | (with_reducible exact Or.inl rfl) | (left; assumption) | (right; simp; done) | (right; omega)))⟩
set_option maxHeartbeats 1000000 in
set_option maxRecDepth 100000 in
theorem is_yes (g T : Nat) (w : World) (t : Tk) (r : List Tk) (d : Int) (A : Option Addr) (cs : Nat) (ss : List ByteArray) (hR : Rd g T w (t :: r) d) (hS : Kd.C Kd.string w A ss.length ss) (hcs : ss.length ≤ cs) (hss : ss.length ≤ 4000000000)
    (h3 : t.f0 = 3 ∨ t.f0 = 1) (hr : r ≠ []) (hyes : hasB ss t.f1 = true) :
    Calls Tryd.prog 70 #[.pointer (some ⟨g, 0, none⟩), .slice A ss.length cs] w fun e w' => e = .returned (.tuple #[.agg #[.int .i64 t.f0, .string t.f1, .int .i64 t.f2], .bool true]) ∧ Rd g T w' r d ∧ Kept (fun k => k = g) w w' := by
  obtain ⟨off, c, h0, h1, z0, z1, hc, hT, hC⟩ := hR.cell
  obtain ⟨x0, x1, x2⟩ := head_cells hC
  have hg := hR.lt
  have hTl := toks_lt hC (by simp)
  have hg1 : ∀ k, g < w.heap.size + k := fun k => by omega
  have hT1 : ∀ k, T < w.heap.size + k := fun k => by omega
  have h4 : t.f0 ≠ 4 := by omega
  rcases h3 with h3 | h3
  all_goals
    go_enter Tryd.func70, Tryd.ntmps70
    go_wp2_with (first | (go_at_call 57; refine (contains_calls _ _ _ _ _ (Kd.C_alloc (Kd.C_alloc hS _) _) hcs hss).mono ?_; rintro e w' ⟨rfl, ⟨m, rfl⟩⟩; rw [hyes]) | (go_at_call 74; refine (take_one g T _ t r d (((hR.alloc _).alloc _).drewN _) h4 hr).mono ?_; rintro e w1 ⟨rfl, hR1, hK1⟩; have q4 := fun i => hK1.cell (p := ⟨w.heap.size, i, none⟩) (by (first | (simp; done) | (simp; omega) | omega)) (by (first | (simp; done) | (simp; omega) | omega)); have hKw := Kept.trans (S := fun k => k = g) (a := w) (by (repeat' (first | (with_reducible exact Kept.refl _ _) | (with_reducible assumption) | (with_reducible apply Kept.alloc) | (with_reducible apply Kept.drew) | (with_reducible apply Kept.drewN) | (with_reducible refine Kept.setCell ?_ _ _ _ ?_) | (with_reducible exact Or.inl rfl) | (left; assumption) | (right; simp; done) | (right; omega)))) hK1 (fun _ _ h => h); have f4 := fun i => hK1.froz (p := ⟨w.heap.size, i, none⟩) (by (first | (simp; done) | (simp; omega) | omega)) (by (first | (simp; done) | (simp; omega) | omega))))
    all_goals ((try simp only [Exit.inBlock, Exit.then]); refine bodyPost_ret (by simp [results, Tryd.results70, go_sem, *]; try rfl) rfl ?_)
    exact ⟨by rw [h3], by (repeat' (first | (with_reducible assumption) | (with_reducible apply Rd.alloc) | (with_reducible apply Rd.drew) | (with_reducible apply Rd.drewN) | (with_reducible refine Rd.setO ?_ _ _ _ (by (first | (simp; done) | (simp; omega) | omega)) (by (first | (simp; done) | (simp; omega) | omega))))), by (repeat' (first | (with_reducible exact Kept.refl _ _) | (with_reducible assumption) | (with_reducible apply Kept.alloc) | (with_reducible apply Kept.drew) | (with_reducible apply Kept.drewN) | (with_reducible refine Kept.setCell ?_ _ _ _ ?_) | (with_reducible exact Or.inl rfl) | (left; assumption) | (right; simp; done) | (right; omega)))⟩
end Go.Proofs.YtfgogfdbjbnlbaaDoor.PExpr
end
section
namespace Go.Proofs.YtfgogfdbjbnlbaaDoor.PExpr
open Go.RowKit Go.Proofs.YtfgogfdbjbnlbaaDoorW.PrintWords Go.Proofs.YtfgogfdbjbnlbaaDoorW.PrintLast Go.Proofs.YtfgogfdbjbnlbaaDoorW.PrintMore
set_option linter.unusedVariables false
set_option linter.unusedSimpArgs false
inductive Res where
  | ok (n : Nd) (l : List Tk)
  | bad (why pos : Int)
def isIt (ss : List ByteArray) (t : Tk) : Bool := (t.f0 == 3 || t.f0 == 1) && hasB ss t.f1
def tokV (t : Tk) : Value := .agg #[.int .i64 t.f0, .string t.f1, .int .i64 t.f2]
theorem is_calls (g T : Nat) (w : World) (t : Tk) (r : List Tk) (d : Int) (A : Option Addr) (cs : Nat) (ss : List ByteArray) (hR : Rd g T w (t :: r) d) (hS : Kd.C Kd.string w A ss.length ss) (hcs : ss.length ≤ cs) (hss : ss.length ≤ 4000000000)
    (hr : isIt ss t = true → r ≠ []) :
    Calls Tryd.prog 70 #[.pointer (some ⟨g, 0, none⟩), .slice A ss.length cs] w fun e w' => e = .returned (.tuple #[tokV t, .bool (isIt ss t)]) ∧ Rd g T w' (if isIt ss t = true then r else t :: r) d ∧ Kept (fun k => k = g) w w' := by
  by_cases h3 : t.f0 = 3 ∨ t.f0 = 1
  · cases hb : hasB ss t.f1 with
    | false =>
      have e : isIt ss t = false := by simp [isIt, hb]
      rw [e]
      exact is_no g T w t r d A cs ss hR hS hcs hss h3 hb
    | true =>
      have e : isIt ss t = true := by simp [isIt, hb]; exact h3
      rw [e]
      exact is_yes g T w t r d A cs ss hR hS hcs hss h3 (hr e) hb
  · have e : isIt ss t = false := by
      have h1 : t.f0 ≠ 3 ∧ t.f0 ≠ 1 := by omega
      simp [isIt, h1.1, h1.2]
    rw [e]
    exact is_other g T w t r d A cs ss hR hS hcs hss (by omega) (by omega)
theorem strs_new (w : World) (ss : List ByteArray) (cs : Array Value) (h : cs.toList = ss.map Value.string) (hl : ss.length ≤ 4000000000) : Kd.C Kd.string (w.alloc (.cells cs 9)) (some ⟨w.heap.size, 0, none⟩) ss.length ss := by
  refine Kd.C_of_reads (d := ByteArray.empty) ⟨rfl, by omega, fun _ => ⟨_, rfl, fun j hj => ?_⟩⟩
  have e : cs[j]? = some (.string (ss.getD j ByteArray.empty)) := by
    rw [← Array.getElem?_toList, h, List.getElem?_map, List.getD_eq_getElem?_getD, List.getElem?_eq_getElem hj]
    rfl
  rw [add_plain]
  try rw [Nat.zero_add]
  rw [World.cell?_alloc_at _ _ _ _ rfl, e]
set_option maxHeartbeats 1000000 in
set_option maxRecDepth 100000 in
theorem want_yes (g T : Nat) (w : World) (t : Tk) (r : List Tk) (d : Int) (s : ByteArray) (hR : Rd g T w (t :: r) d) (hi : isIt [s] t = true) (hr : r ≠ []) :
    Calls Tryd.prog 87 #[.pointer (some ⟨g, 0, none⟩), .string s] w fun e w' => e = .returned (.tuple #[]) ∧ Rd g T w' r d ∧ Kept (fun k => k = g) w w' := by
  have hg := hR.lt
  have hg1 : ∀ k, g < w.heap.size + k := fun k => by omega
  go_enter Tryd.func87, Tryd.ntmps87
  go_wp2_with (go_at_call 70; refine (is_calls g T _ t r d _ _ [s] (hR.alloc _) (strs_new w [s] _ rfl (by simp)) (by simp) (by simp) (fun _ => hr)).mono ?_; rintro e w1 ⟨rfl, hR1, hK1⟩; rw [hi] at hR1 ⊢; have hKw := Kept.trans (S := fun k => k = g) (a := w) (by (repeat' (first | (with_reducible exact Kept.refl _ _) | (with_reducible assumption) | (with_reducible apply Kept.alloc) | (with_reducible apply Kept.drew) | (with_reducible apply Kept.drewN) | (with_reducible refine Kept.setCell ?_ _ _ _ ?_) | (with_reducible exact Or.inl rfl) | (left; assumption) | (right; simp; done) | (right; omega)))) hK1 (fun _ _ h => h); unfold tokV)
  go_end0
  simp only [if_true] at hR1
  exact ⟨rfl, by (repeat' (first | (with_reducible assumption) | (with_reducible apply Rd.alloc) | (with_reducible apply Rd.drew) | (with_reducible apply Rd.drewN) | (with_reducible refine Rd.setO ?_ _ _ _ (by (first | (simp; done) | (simp; omega) | omega)) (by (first | (simp; done) | (simp; omega) | omega))))), by (repeat' (first | (with_reducible exact Kept.refl _ _) | (with_reducible assumption) | (with_reducible apply Kept.alloc) | (with_reducible apply Kept.drew) | (with_reducible apply Kept.drewN) | (with_reducible refine Kept.setCell ?_ _ _ _ ?_) | (with_reducible exact Or.inl rfl) | (left; assumption) | (right; simp; done) | (right; omega)))⟩
set_option maxHeartbeats 1000000 in
set_option maxRecDepth 100000 in
theorem want_no (g T : Nat) (w : World) (t : Tk) (r : List Tk) (d : Int) (s : ByteArray) (hR : Rd g T w (t :: r) d) (hi : isIt [s] t = false) :
    Calls Tryd.prog 87 #[.pointer (some ⟨g, 0, none⟩), .string s] w fun e w' => Thrown e 30 t.f2 ∧ Kept (fun k => k = g) w w' := by
  have hg := hR.lt
  have hg1 : ∀ k, g < w.heap.size + k := fun k => by omega
  go_enter Tryd.func87, Tryd.ntmps87
  go_wp2_with (first | (go_at_call 70; refine (is_calls g T _ t r d _ _ [s] (hR.alloc _) (strs_new w [s] _ rfl (by simp)) (by simp) (by simp) (fun q => by rw [hi] at q; cases q)).mono ?_; rintro e w1 ⟨rfl, hR1, hK1⟩; rw [hi] at hR1 ⊢; have hKw := Kept.trans (S := fun k => k = g) (a := w) (by (repeat' (first | (with_reducible exact Kept.refl _ _) | (with_reducible assumption) | (with_reducible apply Kept.alloc) | (with_reducible apply Kept.drew) | (with_reducible apply Kept.drewN) | (with_reducible refine Kept.setCell ?_ _ _ _ ?_) | (with_reducible exact Or.inl rfl) | (left; assumption) | (right; simp; done) | (right; omega)))) hK1 (fun _ _ h => h); unfold tokV) | (go_at_call 42; refine (fail_calls _ _ _).mono ?_; rintro e w2 ⟨he, hb⟩; unfold Thrown at he; subst he))
  exact ⟨rfl, rfl, Kept.below (by (repeat' (first | (with_reducible exact Kept.refl _ _) | (with_reducible assumption) | (with_reducible apply Kept.alloc) | (with_reducible apply Kept.drew) | (with_reducible apply Kept.drewN) | (with_reducible refine Kept.setCell ?_ _ _ _ ?_) | (with_reducible exact Or.inl rfl) | (left; assumption) | (right; simp; done) | (right; omega)))) hb⟩
end Go.Proofs.YtfgogfdbjbnlbaaDoor.PExpr
end
section
namespace Go.Proofs.YtfgogfdbjbnlbaaDoor.PExpr
open Go.RowKit Go.Proofs.YtfgogfdbjbnlbaaDoorW.PrintWords Go.Proofs.YtfgogfdbjbnlbaaDoorW.PrintLast Go.Proofs.YtfgogfdbjbnlbaaDoorW.PrintMore
set_option linter.unusedVariables false
set_option linter.unusedSimpArgs false
section
variable {P : Program} {ops : Array Oper} {Q : Exit → Act → World → Prop} {md : Region.Mode} {S : World → Prop} {ds : List Nat}
theorem rtake {i : Nat} {N : Option Tmp} {oi : Oper} {v : Value} {fuel : Nat} {l : Array Bool} {a : Act} {w : World} (hi : ops[i]? = some oi) (hN : oi.dst = N) (hc : takeB md ops ds l (l.setIfInBounds i true) i = true)
    (hQ : ∀ c a w, Q (.panic c) (a.put oi.dst v) w → Q (.panic c) a w) (hy : YieldsIf P ops S oi v a) (hS : S w) {a' : Act} (ha : a.put N v = a')
    (h : wpAnyLast P md ops Q S ds fuel (l.setIfInBounds i true) a' w) : wpAnyLast P md ops Q S ds (fuel + 1) l a w := take_ _ hi hN hc hQ hy hS ha h
theorem rpure {i : Nat} {N : Option Tmp} {oi : Oper} {v : Value} {fuel : Nat} {l : Array Bool} {a : Act} {w : World} (hi : ops[i]? = some oi) (hN : oi.dst = N) (hc : anyB md ops l (l.setIfInBounds i true) i = true)
    (hQ : ∀ c a w, Q (.panic c) (a.put oi.dst v) w → Q (.panic c) a w) (hy : Yields P ops oi v a) {a' : Act} (ha : a.put N v = a')
    (h : wpAnyLast P md ops Q S ds fuel (l.setIfInBounds i true) a' w) : wpAnyLast P md ops Q S ds (fuel + 1) l a w := pure_ _ hi hN hc hQ hy ha h
theorem rone {i : Nat} {N : Option Tmp} {oi : Oper} {fuel : Nat} {l : Array Bool} {a : Act} {w : World} (hi : ops[i]? = some oi) (hN : oi.dst = N) (hc : readyB md ops l (l.setIfInBounds i true) i = true) (hd : i ∉ ds)
    (h : ∀ K : Act → World → Prop, Shut (∀ a' w', S w' → (S w' → wpAnyLast P md ops Q S ds fuel (l.setIfInBounds i true) a' w') → K a' w') → if Region.wanted oi (yielded ops a.tmps) = true then Oper.wp P oi a w K Q else K (a.put N undef) w) :
    wpAnyLast P md ops Q S ds (fuel + 1) l a w := one_ _ hi hN hc hd h
theorem rlast {i : Nat} {N : Option Tmp} {oi : Oper} {fuel : Nat} {l : Array Bool} {a : Act} {w : World} (hi : ops[i]? = some oi) (hN : oi.dst = N) (hc : readyB md ops l (l.setIfInBounds i true) i = true) (hd : i ∈ ds)
    (h : ∀ K : Act → World → Prop, Shut (∀ a' w', wpAnyLast P md ops Q S ds fuel (l.setIfInBounds i true) a' w' → K a' w') → if Region.wanted oi (yielded ops a.tmps) = true then Oper.wp P oi a w K Q else K (a.put N undef) w) :
    wpAnyLast P md ops Q S ds (fuel + 1) l a w := last_ _ hi hN hc hd h
theorem rcall {oi : Oper} {N : Option Tmp} {a : Act} {w : World} {K : Act → World → Prop} (f : FuncId) (args : Array Value) (hw : Region.wanted oi (yielded ops a.tmps) = true) (hN : oi.dst = N) (hrun : (execOp a.eval oi).run P w = .ok (.enter f args) w)
    (h : Calls P f args w fun e w' => (∃ v, e = .returned v ∧ K (a.put N v) w') ∨ (∃ c, e = .panicked c ∧ Q (.panic c) a w')) : if Region.wanted oi (yielded ops a.tmps) = true then Oper.wp P oi a w K Q else K (a.put N undef) w := by
  rw [if_pos hw]
  subst hN
  unfold Oper.wp
  rw [hrun, Oper.upon_enter]
  refine h.mono fun e w'' hh => ?_
  rcases hh with ⟨v, rfl, hk⟩ | ⟨c, rfl, hk⟩
  · exact hk
  · exact hk
end
end Go.Proofs.YtfgogfdbjbnlbaaDoor.PExpr
end
section
namespace Go.Proofs.YtfgogfdbjbnlbaaDoor.PExpr
open Go.RowKit Go.Proofs.YtfgogfdbjbnlbaaDoorW.PrintWords Go.Proofs.YtfgogfdbjbnlbaaDoorW.PrintLast Go.Proofs.YtfgogfdbjbnlbaaDoorW.PrintMore
set_option linter.unusedVariables false
set_option linter.unusedSimpArgs false
def Res.then (r : Res) (f : Nd → List Tk → Option Res) : Option Res :=
  match r with
  | .ok n l => f n l
  | .bad why pos => some (.bad why pos)
def rowL (part : List Tk → Option Res) (ss : List ByteArray) : Nat → Nd → List Tk → Option Res
  | 0, _, _ => none
  | _ + 1, _, [] => none
  | k + 1, n, t :: r =>
    if isIt ss t = true then
      if r.isEmpty = true then none
      else (part r).bind fun m => m.then fun m l => rowL part ss k ⟨8, t.f1, [n, m], t.f2⟩ l
    else some (.ok n (t :: r))
def rowP (part : List Tk → Option Res) (ss : List ByteArray) (k : Nat) (l : List Tk) : Option Res :=
  (part l).bind fun n => n.then fun n l => rowL part ss k n l
def prefixP (again other : Int → List Tk → Option Res) (kind : Int) (s : ByteArray) (d : Int) : List Tk → Option Res
  | [] => none
  | t :: r =>
    if isIt [s] t = true then
      if r.isEmpty = true then none
      else if d + 1 > 20 then some (.bad 31 t.f2)
      else (again (d + 1) r).bind fun m => m.then fun m l => some (.ok ⟨kind, ⟨#[]⟩, [m], t.f2⟩ l)
    else other d (t :: r)
def sOr : ByteArray := ⟨#[111, 114]⟩
def sAnd : ByteArray := ⟨#[97, 110, 100]⟩
def sNot : ByteArray := ⟨#[110, 111, 116]⟩
def sMinus : ByteArray := ⟨#[45]⟩
def sPlus : ByteArray := ⟨#[43]⟩
def sStar : ByteArray := ⟨#[42]⟩
def sSlash : ByteArray := ⟨#[47]⟩
def sPer : ByteArray := ⟨#[37]⟩
def sAt : ByteArray := ⟨#[97, 116]⟩
def sTime : ByteArray := ⟨#[116, 105, 109, 101]⟩
def sZone : ByteArray := ⟨#[122, 111, 110, 101]⟩
def sZoned : ByteArray := ⟨#[97, 116, 32, 116, 105, 109, 101, 32, 122, 111, 110, 101]⟩
def sCast : ByteArray := ⟨#[58, 58]⟩
def sOpen : ByteArray := ⟨#[40]⟩
def sShut : ByteArray := ⟨#[41]⟩
def sComma : ByteArray := ⟨#[44]⟩
def sTrue : ByteArray := ⟨#[116, 114, 117, 101]⟩
def sFalse : ByteArray := ⟨#[102, 97, 108, 115, 101]⟩
def sDot : ByteArray := ⟨#[46]⟩
def cmps : List ByteArray := [⟨#[61]⟩, ⟨#[60, 62]⟩, ⟨#[60]⟩, ⟨#[60, 61]⟩, ⟨#[62]⟩, ⟨#[62, 61]⟩]
def kept8 : List ByteArray := [sTrue, sFalse, sNot, sAnd, sOr, sAt, sTime, sZone]
def types4 : List ByteArray := [⟨#[100, 97, 116, 101]⟩, ⟨#[116, 105, 109, 101, 115, 116, 97, 109, 112]⟩, ⟨#[116, 105, 109, 101, 115, 116, 97, 109, 112, 116, 122]⟩, ⟨#[105, 110, 116, 101, 114, 118, 97, 108]⟩]
def cmpP (sum : List Tk → Option Res) (l : List Tk) : Option Res :=
  (sum l).bind fun n => n.then fun n l =>
    match l with
    | [] => none
    | t :: r =>
      if isIt cmps t = true then
        if r.isEmpty = true then none
        else (sum r).bind fun m => m.then fun m l => some (.ok ⟨8, t.f1, [n, m], t.f2⟩ l)
      else some (.ok n (t :: r))
def wantP (s : ByteArray) (l : List Tk) (f : List Tk → Option Res) : Option Res :=
  match l with
  | [] => none
  | t :: r => if isIt [s] t = true then (if r.isEmpty = true then none else f r) else some (.bad 30 t.f2)
def zoneL (cast : List Tk → Option Res) : Nat → Nd → List Tk → Option Res
  | 0, _, _ => none
  | _ + 1, _, [] => none
  | k + 1, n, t :: r =>
    if isIt [sAt] t = true then
      if r.isEmpty = true then none
      else wantP sTime r fun l => wantP sZone l fun l => (cast l).bind fun m => m.then fun m l => zoneL cast k ⟨8, sZoned, [n, m], t.f2⟩ l
    else some (.ok n (t :: r))
def zoneP (cast : List Tk → Option Res) (k : Nat) (l : List Tk) : Option Res :=
  (cast l).bind fun n => n.then fun n l => zoneL cast k n l
def takeP (l : List Tk) (f : Tk → List Tk → Option Res) : Option Res :=
  match l with
  | [] => none
  | t :: r => if t.f0 = 4 then f t (t :: r) else if r.isEmpty = true then none else f t r
def castL : Nat → Nd → List Tk → Option Res
  | 0, _, _ => none
  | _ + 1, _, [] => none
  | k + 1, n, t :: r =>
    if isIt [sCast] t = true then
      if r.isEmpty = true then none
      else takeP r fun u l => if u.f0 ≠ 1 ∨ hasB kept8 u.f1 = true then some (.bad 30 u.f2) else castL k ⟨10, u.f1, [n], t.f2⟩ l
    else some (.ok n (t :: r))
def castP (prim : List Tk → Option Res) (k : Nat) (l : List Tk) : Option Res :=
  (prim l).bind fun n => n.then fun n l => castL k n l
def argsL (part : List Tk → Option Res) : Nat → List Nd → List Tk → (List Nd → List Tk → Option Res) → Option Res
  | 0, _, _, _ => none
  | _ + 1, _, [], _ => none
  | k + 1, ns, t :: r, f =>
    if isIt [sComma] t = true then
      if r.isEmpty = true then none
      else (part r).bind fun m => m.then fun m l => argsL part k (ns ++ [m]) l f
    else wantP sShut (t :: r) (f ns)
def argsP (part : List Tk → Option Res) (k : Nat) (l : List Tk) (f : List Nd → List Tk → Option Res) : Option Res :=
  match l with
  | [] => none
  | t :: r =>
    if isIt [sShut] t = true then (if r.isEmpty = true then none else f [] r)
    else (part (t :: r)).bind fun m => m.then fun m l => argsL part k [m] l f
def namedP (or : Int → List Tk → Option Res) (k : Nat) (d : Int) (t : Tk) (l : List Tk) : Option Res :=
  match l with
  | [] => none
  | u :: r =>
    if u.f0 = 2 ∧ hasB types4 t.f1 = true then (if r.isEmpty = true then none else some (.ok ⟨5, t.f1, [⟨3, u.f1, [], u.f2⟩], t.f2⟩ r))
    else wantP sOpen (u :: r) fun l => if d + 1 > 20 then some (.bad 31 t.f2) else argsP (or (d + 1)) k l fun ns l => some (.ok ⟨9, t.f1, ns, t.f2⟩ l)
def hasDot (s : ByteArray) : Bool := s.data.toList.contains 46
def primP (or : Int → List Tk → Option Res) (k : Nat) (d : Int) (l : List Tk) : Option Res :=
  takeP l fun t l =>
    if t.f0 = 0 then some (.ok ⟨if hasDot t.f1 = true then 2 else 1, t.f1, [], t.f2⟩ l)
    else if t.f0 = 2 then some (.ok ⟨3, t.f1, [], t.f2⟩ l)
    else if t.f0 = 3 ∧ t.f1 = sOpen then
      if d + 1 > 20 then some (.bad 31 t.f2)
      else (or (d + 1) l).bind fun n => n.then fun n l => wantP sShut l fun l => some (.ok n l)
    else if t.f0 = 1 ∧ (t.f1 = sTrue ∨ t.f1 = sFalse) then some (.ok ⟨4, t.f1, [], t.f2⟩ l)
    else if t.f0 = 1 ∧ hasB kept8 t.f1 = false then namedP or k d t l
    else some (.bad 30 t.f2)
def parse : Nat → Nat → Int → List Tk → Option Res
  | 0, _, _, _ => none
  | k + 1, 0, d, l => rowP (parse k 1 d) [sOr] k l
  | k + 1, 1, d, l => rowP (parse k 2 d) [sAnd] k l
  | k + 1, 2, d, l => prefixP (parse k 2) (parse k 3) 7 sNot d l
  | k + 1, 3, d, l => cmpP (parse k 4 d) l
  | k + 1, 4, d, l => rowP (parse k 5 d) [sPlus, sMinus] k l
  | k + 1, 5, d, l => rowP (parse k 6 d) [sStar, sSlash, sPer] k l
  | k + 1, 6, d, l => prefixP (parse k 6) (parse k 7) 6 sMinus d l
  | k + 1, 7, d, l => zoneP (parse k 8 d) k l
  | k + 1, 8, d, l => castP (parse k 9 d) k l
  | k + 1, _, d, l => primP (parse k 0) k d l
def NdS (S : Nat → Prop) (w : World) (n : Nd) (A : Option Addr) (c : Nat) : Prop :=
  n.f2.length ≤ c ∧ ∀ W, Kept S w W → Kd.R kNd 58 W 0 (fun k => ¬ S k) (.slice A n.f2.length c) n.f2
def ndV (n : Nd) (A : Option Addr) (c : Nat) : Value := .agg #[.int .i64 n.f0, .string n.f1, .slice A n.f2.length c, .int .i64 n.f3]
def Post (g T : Nat) (d : Int) (w : World) (r : Res) (e : Ending) (w' : World) : Prop :=
  match r with
  | .ok n l => ∃ A c, e = .returned (ndV n A c) ∧ NdS (fun k => k < w.heap.size) w' n A c ∧ l ≠ [] ∧ Rd g T w' l d ∧ Kept (fun k => k = g) w w'
  | .bad why pos => Thrown e why pos ∧ Kept (fun k => k = g) w w'
theorem Post.bad_ {g T : Nat} {d why pos : Int} {w w' : World} {e : Ending} (h : Post g T d w (.bad why pos) e w') : e = .panicked [{ v := stopV why pos, recovered := false }] ∧ Kept (fun k => k = g) w w' := h
theorem Post.ok_ {g T : Nat} {d : Int} {n : Nd} {l : List Tk} {w w' : World} {e : Ending} (h : Post g T d w (.ok n l) e w') : ∃ A c, e = .returned (ndV n A c) ∧ NdS (fun k => k < w.heap.size) w' n A c ∧ l ≠ [] ∧ Rd g T w' l d ∧ Kept (fun k => k = g) w w' := h
theorem NdS.kept {S S' T : Nat → Prop} {w w' : World} {n : Nd} {A : Option Addr} {c : Nat} (h : NdS S w n A c) (k : Kept T w w') (hT : ∀ j, j < w.heap.size → T j → S j) (hS : ∀ j, j < w.heap.size → S' j → S j) : NdS S' w' n A c := by
  refine ⟨h.1, fun W q => ?_⟩
  have hk : Kept S w W := Kept.trans (k.mono (T := S) hT) q hS
  have h0 := Kd.R_bound (h.2 w (Kept.refl _ _))
  exact Kd.R_mono (Kd.R_move h0 (fun j hj => hk.block j hj.2.2.1 hj.1)) (fun j hj q => hj.1 (hS j hj.2.2.1 q))
theorem NdS.zero (S : Nat → Prop) (w : World) (k : Int) (s : ByteArray) (p : Int) : NdS S w ⟨k, s, [], p⟩ none 0 := ⟨Nat.le_refl _, fun W _ => Kd.R_nil _ _ _ _ _⟩
def ndCs (n : Nd) (A : Option Addr) (c : Nat) : Array Value := #[.int .i64 n.f0, .string n.f1, .slice A n.f2.length c, .int .i64 n.f3]
theorem NdS.inner {S : Nat → Prop} {w W : World} {n : Nd} {A : Option Addr} {c : Nat} (h : NdS S w n A c) (k : Kept S w W) : kNd.M W 0 (fun j => ¬ S j ∧ some j ≠ some w.heap.size) n (ndCs n A c).toList := by
  have h0 := Kd.R_bound (h.2 w (Kept.refl _ _))
  have h1 := Kd.R_mono (Kd.R_move h0 (fun j hj => k.block j hj.2.2.1 hj.1)) (ok' := fun j => ¬ S j ∧ some j ≠ some w.heap.size) (fun j hj => ⟨hj.1, fun e => by
    have h2 := hj.2.2.1
    have e' : j = w.heap.size := Option.some.inj e
    omega⟩)
  exact k58_mkM W 0 _ n h1
theorem kids2_new {S : Nat → Prop} {w W : World} {n m : Nd} {A B : Option Addr} {c d : Nat} (hn : NdS S w n A c) (hm : NdS S w m B d) (hS : ¬ S w.heap.size)
    (k : Kept S (w.alloc (.cells #[.int .i64 n.f0, .string n.f1, .slice A n.f2.length c, .int .i64 n.f3, .int .i64 m.f0, .string m.f1, .slice B m.f2.length d, .int .i64 m.f3] 58)) W) : Kd.R kNd 58 W 0 (fun k => ¬ S k) (.slice (some ⟨w.heap.size, 0, none⟩) 2 2) [n, m] := by
  have kw : Kept S w W := Kept.trans ((Kept.refl S w).alloc _) k (fun _ _ h => h)
  have hb := k.blk (heap_alloc_new w _) hS
  refine ⟨fun j hj => ?_, (ndCs n A c).toList ++ (ndCs m B d).toList, ⟨rfl, .inr ⟨w.heap.size, 2, _, rfl, Nat.zero_le _, hb, Nat.le_refl _, by decide, rfl, rfl⟩⟩, ?_⟩
  · have e : w.heap.size = j := by simpa [Value.ownBlock] using hj
    rw [← e]
    exact hS
  · exact Reps.snoc (Reps.snoc (Reps.none _ _) (hn.inner kw) rfl) (hm.inner kw) rfl
theorem kids1_new {S : Nat → Prop} {w W : World} {n : Nd} {A : Option Addr} {c : Nat} (hn : NdS S w n A c) (hS : ¬ S w.heap.size)
    (k : Kept S (w.alloc (.cells #[.int .i64 n.f0, .string n.f1, .slice A n.f2.length c, .int .i64 n.f3] 58)) W) : Kd.R kNd 58 W 0 (fun k => ¬ S k) (.slice (some ⟨w.heap.size, 0, none⟩) 1 1) [n] := by
  have kw : Kept S w W := Kept.trans ((Kept.refl S w).alloc _) k (fun _ _ h => h)
  have hb := k.blk (heap_alloc_new w _) hS
  refine ⟨fun j hj => ?_, (ndCs n A c).toList, ⟨rfl, .inr ⟨w.heap.size, 1, _, rfl, Nat.zero_le _, hb, Nat.le_refl _, by decide, rfl, rfl⟩⟩, ?_⟩
  · have e : w.heap.size = j := by simpa [Value.ownBlock] using hj
    rw [← e]
    exact hS
  · exact Reps.snoc (Reps.none _ _) (hn.inner kw) rfl
theorem upto_raise (w : World) (base : Nat) : ∀ (n : Nat) (x : Nd) (cs : List Value) (ok : Nat → Prop), (∀ k, ok k → base ≤ k) → (Kd.upto F58 4 [58] n).M w 0 ok x cs → (Kd.upto F58 4 [58] n).M w base ok x cs := by
  intro n
  induction n with
  | zero => intro x cs ok _ h; exact h.elim
  | succ n ih =>
    intro x cs ok hok h
    obtain ⟨_, _, rfl, rfl, ⟨_, _, rfl, rfl, ⟨_, _, rfl, ⟨v2, rfl, g2⟩, rfl⟩⟩⟩ := h
    refine ⟨_, _, rfl, rfl, ⟨_, _, rfl, rfl, ⟨_, _, rfl, ⟨v2, rfl, ?_⟩, rfl⟩⟩⟩
    obtain ⟨h1, inner, ho, hr⟩ := g2
    refine ⟨h1, inner, ⟨ho.1, ?_⟩, hr.imp_ (fun p c hp => ih p c _ (fun k hk => hok k hk.1) hp)⟩
    rcases ho.2 with q | ⟨g, cap, cur, q1, _, q3⟩
    · exact .inl q
    · exact .inr ⟨g, cap, cur, q1, hok g (h1 g (by rw [q1]; rfl)), q3⟩
theorem NdS.owned {base : Nat} {w : World} {n : Nd} {A : Option Addr} {c : Nat} (h : NdS (fun k => k < base) w n A c) : Kd.R kNd 58 w base (fun _ => True) (.slice A n.f2.length c) n.f2 := by
  obtain ⟨h1, inner, ho, hr⟩ := h.2 w (Kept.refl _ _)
  have hok : ∀ k, (fun k => ¬ k < base) k → base ≤ k := fun k hk => by
    have hk' : ¬ k < base := hk
    omega
  refine ⟨fun _ _ => trivial, inner, ⟨ho.1, ?_⟩, hr.imp_ (fun p cs hp => ?_)⟩
  · rcases ho.2 with q | ⟨g, cap, cur, q1, _, q3⟩
    · exact .inl q
    · exact .inr ⟨g, cap, cur, q1, hok g (h1 g (by rw [q1]; rfl)), q3⟩
  · obtain ⟨k, hk⟩ := hp
    exact kNd.M_mono (fun j hj => ⟨trivial, hj.2⟩) (show kNd.M w base _ p cs from ⟨k, upto_raise w base k p cs _ (fun j hj => hok j hj.1) hk⟩)
end Go.Proofs.YtfgogfdbjbnlbaaDoor.PExpr
end
section
namespace Go.Proofs.YtfgogfdbjbnlbaaDoor.PExpr
open Go.RowKit Go.Proofs.YtfgogfdbjbnlbaaDoorW.PrintWords Go.Proofs.YtfgogfdbjbnlbaaDoorW.PrintLast Go.Proofs.YtfgogfdbjbnlbaaDoorW.PrintMore
set_option linter.unusedVariables false
set_option linter.unusedSimpArgs false
def PartC (g T : Nat) (d : Int) (part : List Tk → Option Res) (F : FuncId) : Prop :=
  ∀ w l r, l ≠ [] → Rd g T w l d → part l = some r → Calls Tryd.prog F #[.pointer (some ⟨g, 0, none⟩)] w (Post g T d w r)
abbrev tkCs (t : Tk) : Array Value := #[.int .i64 t.f0, .string t.f1, .int .i64 t.f2]
abbrev zeroNd : Array Value := #[.int .i64 0, .string ⟨#[]⟩, .slice none 0 0, .int .i64 0]
def RowInv (part : List Tk → Option Res) (ss : List ByteArray) (R : Res) (g T : Nat) (d : Int) (w : World) (b6 b7 : Nat) (kq : Nat) (v8 v9 : Value) (w' : World) : Prop :=
  ∃ n A c t r b8, v8 = .pointer (some ⟨b8, 0, none⟩) ∧ v9 = .bool (isIt ss t) ∧ rowL part ss kq n (t :: r) = some R ∧ w'.heap[b7]? = some (.cells (ndCs n A c) 58 (0, 0)) ∧ w'.heap[b8]? = some (.cells (tkCs t) 87 (0, 0)) ∧
    w'.heap[b6]? = some (.cells zeroNd 58 (0, 0)) ∧ NdS (fun k => k ≤ b6 ∨ k = b7) w' n A c ∧ Rd g T w' (if isIt ss t = true then r else t :: r) d ∧ Kept (fun k => k = g) w w' ∧ w.heap.size ≤ b8 ∧ b7 ≠ b8 ∧ b6 ≠ b8
theorem row_rest {part : List Tk → Option Res} {ss : List ByteArray} {k : Nat} {n : Nd} {t : Tk} {r : List Tk} {R : Res} (h : rowL part ss k n (t :: r) = some R) (hi : isIt ss t = true) : r ≠ [] := by
  cases k with
  | zero => cases h
  | succ k =>
    rw [rowL, if_pos hi] at h
    intro hr
    subst hr
    cases h
set_option maxHeartbeats 400000 in
set_option maxRecDepth 100000 in
theorem row_calls (F : FuncId) (hF : ∀ args w, (callFunc F args).run Tryd.prog w = .ok (.enter F args) w) (g T : Nat) (d : Int) (part : List Tk → Option Res) (hp : PartC g T d part F) (A : Option Addr) (cs : Nat) (ss : List ByteArray) (k : Nat) (l : List Tk) (R : Res) (w : World)
    (hl : l ≠ []) (hR : Rd g T w l d) (hS : ∀ W, Kept (fun k => k = g) w W → Kd.C Kd.string W A ss.length ss) (hcs : ss.length ≤ cs) (hss : ss.length ≤ 4000000000) (h : rowP part ss k l = some R) :
    Calls Tryd.prog 58 #[.pointer (some ⟨g, 0, none⟩), .func (.func F) #[.pointer (some ⟨g, 0, none⟩)] #[], .slice A ss.length cs] w (Post g T d w R) := by
  have hg := hR.lt
  have hT := hR.Tlt hl
  have hg1 : ∀ k, g < w.heap.size + k := fun k => by omega
  have HS := Aside0.mk hS
  have HP := Aside0.mk hp
  clear hS hp
  unfold rowP at h
  obtain ⟨r1, hr1, h⟩ := Option.bind_eq_some_iff.mp h
  have HF := Aside0.mk hF
  have hc1 := Aside0.mk (HP.out (w.alloc (.cells zeroNd 58)) l r1 hl (hR.alloc _) hr1)
  cases r1 with
  | bad why pos =>
    obtain rfl := Option.some.inj (show some (Res.bad why pos) = some R from h)
    go_enter Tryd.func58, Tryd.ntmps58
    go_wp2_with (go_at_fn F; go_loud (with_reducible refine hc1.out.mono ?_; intro e w1 hq; obtain ⟨rfl, hK1⟩ := Post.bad_ hq))
    exact ⟨rfl, rfl, Kept.trans (by (repeat' (first | (with_reducible exact Kept.refl _ _) | (with_reducible assumption) | (with_reducible apply Kept.alloc) | (with_reducible apply Kept.drew) | (with_reducible apply Kept.drewN) | (with_reducible refine Kept.setCell ?_ _ _ _ ?_) | (with_reducible exact Or.inl rfl) | (left; assumption) | (right; simp; done) | (right; omega)))) hK1 (fun _ _ h => h)⟩
  | ok n l1 =>
    replace h : rowL part ss k n l1 = some R := h
    have H := Aside0.mk h
    clear h
    go_enter Tryd.func58, Tryd.ntmps58
    go_wp2_with (go_at_fn F; go_loud (with_reducible refine hc1.out.mono ?_; intro e w1 hq; obtain ⟨A1, c1, rfl, hN1, hl1, hR1, hK1⟩ := Post.ok_ hq; clear hq; unfold ndV; have hKw := Kept.trans (S := fun k => k = g) (a := w) (by (repeat' (first | (with_reducible exact Kept.refl _ _) | (with_reducible assumption) | (with_reducible apply Kept.alloc) | (with_reducible apply Kept.drew) | (with_reducible apply Kept.drewN) | (with_reducible refine Kept.setCell ?_ _ _ _ ?_) | (with_reducible exact Or.inl rfl) | (left; assumption) | (right; simp; done) | (right; omega)))) hK1 (fun _ _ h => h)))
    cases l1 with
    | nil => exact absurd rfl hl1
    | cons t1 r1 =>
      have hr1' : isIt ss t1 = true → r1 ≠ [] := fun q => row_rest H.out q
      have hK := Aside0.mk hK1
      have hKW := Aside0.mk hKw
      have hN := Aside0.mk hN1
      have hRd := Aside0.mk hR1
      clear hK1 hKw hN1 hR1 hl1
      have hb6 := Aside0.mk (hK.out.blk (heap_alloc_new w _) (by omega))
      have hlt1 : w.heap.size < w1.heap.size := by have := hK.out.size; simp at this; omega
      have hgl : g < w1.heap.size := by omega
      refine (is_calls g T _ t1 r1 d A cs ss (hRd.out.alloc _) (HS.out _ (hKW.out.alloc _)) hcs hss hr1').mono ?_
      rintro e w2 ⟨rfl, hR2, hK2⟩
      have hR2' := Aside0.mk hR2
      have hK2' := Aside0.mk hK2
      have hKw2 := Aside0.mk (Kept.trans (S := fun k => k = g) (a := w) (hKW.out.alloc _) hK2 (fun _ _ h => h))
      have hlt2 : w1.heap.size < w2.heap.size := by have := hK2.size; simp at this; omega
      clear hR2 hK2
      unfold tokV
      go_wp2_with (fail)
      go_loopg [8, 9] k (fun kq v8 v9 w' => Aside0 (RowInv part ss R g T d w w.heap.size w1.heap.size kq v8 v9 w'))
      case atStart =>
        refine ⟨n, A1, c1, t1, r1, w2.heap.size, rfl, rfl, H.out, ?_, ?_, ?_, ?_, ?_, ?_, ?_, ?_, ?_⟩
        · exact blk_alloc (hK2'.out.blk (heap_alloc_new w1 _) (by omega)) _
        · exact heap_alloc_new w2 _
        · exact blk_alloc (hK2'.out.blk (blk_alloc hb6.out _) (by omega)) _
        · exact hN.out.kept (T := fun k => k = g) (Kept.trans (S := fun k => k = g) ((Kept.refl _ w1).alloc _) (hK2'.out.alloc _) (fun _ _ h => h)) (fun j _ q => by simp; omega) (fun j _ q => by simp; omega)
        · exact hR2'.out.alloc _
        · exact hKw2.out.alloc _
        · omega
        · omega
        · omega
      case round =>
        obtain ⟨n, A0, c0, t, r, b8, rfl, rfl, hrow, hB7, hB8, hB6, hN', hRd', hKw', hle, hne7, hne6⟩ := hrel.out
        clear hb6 hK hKW hN hRd hK2' hKw2 hR2' hc1 H
        have q7 := fun i => blk_cell hB7 i
        have q6 := fun i => blk_cell hB6 i
        have f6 := fun i => blk_frozen hB6 i
        have hB7' := Aside0.mk hB7
        have hB8' := Aside0.mk hB8
        have hB6' := Aside0.mk hB6
        have hN := Aside0.mk hN'
        have hRd := Aside0.mk hRd'
        have hKw := Aside0.mk hKw'
        have hRow := Aside0.mk hrow
        clear hB7 hB8 hB6 hN' hRd' hKw' hrow
        simp only [ndCs, zeroNd] at q7 q6
        cases hi : isIt ss t with
        | false =>
          have hq := hRow.out
          obtain ⟨gk, rfl⟩ : ∃ j, gk = j + 1 := by cases gk with | zero => cases hq | succ j => exact ⟨j, rfl⟩
          rw [rowL, if_neg (by rw [hi]; simp)] at hq
          obtain rfl := Option.some.inj hq
          have hR' := hRd.out
          rw [hi, if_neg (by simp)] at hR'
          go_wp2_with (fail)
          ((try simp only [Exit.inBlock, Exit.then]); refine bodyPost_ret (by simp [results, Tryd.results58, go_sem, *]; try rfl) rfl ?_)
          have hk := hKw.out
          refine ⟨A0, c0, rfl, ?_, by simp, by (repeat' (first | (with_reducible assumption) | (with_reducible apply Rd.alloc) | (with_reducible apply Rd.drew) | (with_reducible apply Rd.drewN) | (with_reducible refine Rd.setO ?_ _ _ _ (by (first | (simp; done) | (simp; omega) | omega)) (by (first | (simp; done) | (simp; omega) | omega))))), by (repeat' (first | (with_reducible exact Kept.refl _ _) | (with_reducible assumption) | (with_reducible apply Kept.alloc) | (with_reducible apply Kept.drew) | (with_reducible apply Kept.drewN) | (with_reducible refine Kept.setCell ?_ _ _ _ ?_) | (with_reducible exact Or.inl rfl) | (left; assumption) | (right; simp; done) | (right; omega)))⟩
          exact hN.out.kept (T := fun k => k = w.heap.size) (by (repeat' (first | (with_reducible exact Kept.refl _ _) | (with_reducible assumption) | (with_reducible apply Kept.alloc) | (with_reducible apply Kept.drew) | (with_reducible apply Kept.drewN) | (with_reducible refine Kept.setCell ?_ _ _ _ ?_) | (with_reducible exact Or.inl rfl) | (left; assumption) | (right; simp; done) | (right; omega)))) (fun j _ q => by have q' : j = w.heap.size := q; exact Or.inl (by omega)) (fun j _ q => by have q' : j < w.heap.size := q; exact Or.inl (by omega))
        | true =>
          have hr0 := row_rest hRow.out hi
          have hq := hRow.out
          obtain ⟨gk, rfl⟩ : ∃ j, gk = j + 1 := by cases gk with | zero => cases hq | succ j => exact ⟨j, rfl⟩
          rw [rowL, if_pos hi, if_neg (by simpa using hr0)] at hq
          obtain ⟨r2, hr2, hq⟩ := Option.bind_eq_some_iff.mp hq
          have hR' := hRd.out
          rw [hi, if_pos rfl] at hR'
          have hR'' := Aside0.mk hR'
          clear hR'
          go_wp2_with (fail)
          have q8 := fun i => blk_cell hB8'.out i
          refine start_ (n := 10) (S := fun w' => w'.cell? ⟨b8, 1, none⟩ = some (.string t.f1) ∧ w'.cell? ⟨b8, 2, none⟩ = some (.int .i64 t.f2) ∧ w'.cell? ⟨w1.heap.size, 0, none⟩ = some (.int .i64 n.f0) ∧ w'.cell? ⟨w1.heap.size, 1, none⟩ = some (.string n.f1) ∧ w'.cell? ⟨w1.heap.size, 2, none⟩ = some (.slice A0 n.f2.length c0) ∧ w'.cell? ⟨w1.heap.size, 3, none⟩ = some (.int .i64 n.f3))
            (ds := [9]) #[false, false, false, false, false, false, false, false, false, false] (by kernel_rfl) rfl rfl ⟨(q8 1).trans rfl, (q8 2).trans rfl, (q7 0).trans rfl, (q7 1).trans rfl, (q7 2).trans rfl, (q7 3).trans rfl⟩ (fun hHeld => ?_)
          ((refine rpure (i := 0) (N := some 25) (v := ?_) (a' := ?_) rfl rfl (by kernel_rfl) (fun _ _ _ h => h) (Or.inl ⟨by rfl, ?_⟩) ?_ ?_); rotate_left; (· intro w'; go_simp; with_reducible rfl); rotate_left; (· (simp only [Act.put, List.setIfInBounds_toArray, List.set_cons_zero, List.set_cons_succ, i64_w, i32_w]; rfl)))
          ((refine rtake (i := 1) (N := some 26) (v := ?_) (a' := ?_) rfl rfl (by kernel_rfl) (fun _ _ _ h => h) (Or.inl ⟨by rfl, ?_⟩) hHeld ?_ ?_); rotate_left; (· rintro w' ⟨s0, s1, s2, s3, s4, s5⟩; go_simp; with_reducible rfl); rotate_left; (· (simp only [Act.put, List.setIfInBounds_toArray, List.set_cons_zero, List.set_cons_succ, i64_w, i32_w]; rfl)))
          ((refine rtake (i := 2) (N := some 27) (v := ?_) (a' := ?_) rfl rfl (by kernel_rfl) (fun _ _ _ h => h) (Or.inl ⟨by rfl, ?_⟩) hHeld ?_ ?_); rotate_left; (· rintro w' ⟨s0, s1, s2, s3, s4, s5⟩; go_simp; with_reducible rfl); rotate_left; (· (simp only [Act.put, List.setIfInBounds_toArray, List.set_cons_zero, List.set_cons_succ, i64_w, i32_w]; rfl)))
          ((refine rpure (i := 3) (N := some 28) (v := ?_) (a' := ?_) rfl rfl (by kernel_rfl) (fun _ _ _ h => h) (Or.inl ⟨by rfl, ?_⟩) ?_ ?_); rotate_left; (· intro w'; go_simp; with_reducible rfl); rotate_left; (· (simp only [Act.put, List.setIfInBounds_toArray, List.set_cons_zero, List.set_cons_succ, i64_w, i32_w]; rfl)))
          ((refine rpure (i := 6) (N := some 31) (v := ?_) (a' := ?_) rfl rfl (by kernel_rfl) (fun _ _ _ h => h) (Or.inl ⟨by rfl, ?_⟩) ?_ ?_); rotate_left; (· intro w'; go_simp; with_reducible rfl); rotate_left; (· (simp only [Act.put, List.setIfInBounds_toArray, List.set_cons_zero, List.set_cons_succ, i64_w, i32_w]; rfl)))
          ((refine rtake (i := 7) (N := some 32) (v := ?_) (a' := ?_) rfl rfl (by kernel_rfl) (fun _ _ _ h => h) (Or.inl ⟨by rfl, ?_⟩) hHeld ?_ ?_); rotate_left; (· rintro w' ⟨s0, s1, s2, s3, s4, s5⟩; go_simp; with_reducible rfl); rotate_left; (· (simp only [Act.put, List.setIfInBounds_toArray, List.set_cons_zero, List.set_cons_succ, i64_w, i32_w]; rfl)))
          refine rone (i := 4) (N := some 29) rfl rfl (by kernel_rfl) (by decide) (fun K hK => ?_)
          have hc2 := HP.out wr.drew r r2 hr0 hR''.out.drew hr2
          refine rcall F #[.pointer (some ⟨g, 0, none⟩)] (by rfl) rfl (by go_simp) ?_
          cases r2 with
          | bad why pos =>
            obtain rfl := Option.some.inj (show some (Res.bad why pos) = some R from hq)
            refine hc2.mono ?_
            intro e w3 hp
            obtain ⟨rfl, hK3⟩ := Post.bad_ hp
            refine Or.inr ⟨_, rfl, rfl, rfl, ?_⟩
            exact Kept.trans hKw.out.drew hK3 (fun _ _ h => h)
          | ok m l3 =>
            replace hq : rowL part ss gk ⟨8, t.f1, [n, m], t.f2⟩ l3 = some R := hq
            refine hc2.mono ?_
            intro e w3 hp
            obtain ⟨B, d0, rfl, hM, hl3, hR3, hK3⟩ := Post.ok_ hp
            clear hp hc2
            have hs3 := hK3.size
            rw [show wr.drew.heap.size = wr.heap.size from rfl] at hs3
            have hlr : w1.heap.size < wr.heap.size := (Array.getElem?_eq_some_iff.1 hB7'.out).1
            have hl8 : b8 < wr.heap.size := (Array.getElem?_eq_some_iff.1 hB8'.out).1
            have Z7 := Aside0.mk (hK3.blk (show wr.drew.heap[w1.heap.size]? = _ from hB7'.out) (by omega))
            have Z8 := Aside0.mk (hK3.blk (show wr.drew.heap[b8]? = _ from hB8'.out) (by omega))
            have Z6 := Aside0.mk (hK3.blk (show wr.drew.heap[w.heap.size]? = _ from hB6'.out) (by omega))
            have hKw3 := Aside0.mk (Kept.trans hKw.out.drew hK3 (fun _ _ h => h))
            have hM' := Aside0.mk hM
            have hR3' := Aside0.mk hR3
            have hN3 := Aside0.mk (hN.out.kept (S' := fun k => k ≤ w.heap.size ∨ k = w1.heap.size) (Kept.trans (S := fun k => k = g) ((Kept.refl _ wr).drew) hK3 (fun _ _ h => h)) (fun j _ q => by have q' : j = g := q; exact Or.inl (by omega)) (fun j _ q => q))
            have hRow3 := Aside0.mk hq
            clear hM hR3 hK3 hHeld hq hKw hN hB7' hB8' hB6' q6 q7 q8 f6 hRow hR'' hRd hl3
            have c7 := fun i => blk_cell Z7.out i
            have f7 := fun i => blk_frozen Z7.out i
            have c8 := fun i => blk_cell Z8.out i
            simp only [ndCs, tkCs] at c7 c8
            refine Or.inl ⟨_, rfl, hK _ _ ⟨(c8 1).trans rfl, (c8 2).trans rfl, (c7 0).trans rfl, (c7 1).trans rfl, (c7 2).trans rfl, (c7 3).trans rfl⟩ (fun hHeld => ?_)⟩
            clear hK K
            unfold ndV
            refine norm_ (by (simp only [Act.put, List.setIfInBounds_toArray, List.set_cons_zero, List.set_cons_succ, i64_w, i32_w]; rfl)) ?_
            refine rone (i := 5) (N := some 30) rfl rfl (by kernel_rfl) (by decide) (fun K hK => ?_)
            rw [if_pos (by rfl)]
            unfold Oper.wp
            go_simp
            have Y7 := Aside0.mk (blk_alloc Z7.out (.cells #[.int .i64 n.f0, .string n.f1, .slice A0 n.f2.length c0, .int .i64 n.f3, .int .i64 m.f0, .string m.f1, .slice B m.f2.length d0, .int .i64 m.f3] 58))
            have Y8 := Aside0.mk (blk_alloc Z8.out (.cells #[.int .i64 n.f0, .string n.f1, .slice A0 n.f2.length c0, .int .i64 n.f3, .int .i64 m.f0, .string m.f1, .slice B m.f2.length d0, .int .i64 m.f3] 58))
            have Y6 := Aside0.mk (blk_alloc Z6.out (.cells #[.int .i64 n.f0, .string n.f1, .slice A0 n.f2.length c0, .int .i64 n.f3, .int .i64 m.f0, .string m.f1, .slice B m.f2.length d0, .int .i64 m.f3] 58))
            have hR4 := Aside0.mk (hR3'.out.alloc (.cells #[.int .i64 n.f0, .string n.f1, .slice A0 n.f2.length c0, .int .i64 n.f3, .int .i64 m.f0, .string m.f1, .slice B m.f2.length d0, .int .i64 m.f3] 58))
            have hKw4 := Aside0.mk (hKw3.out.alloc (.cells #[.int .i64 n.f0, .string n.f1, .slice A0 n.f2.length c0, .int .i64 n.f3, .int .i64 m.f0, .string m.f1, .slice B m.f2.length d0, .int .i64 m.f3] 58))
            have hO4 : Aside0 (NdS (fun k => k ≤ w.heap.size ∨ k = w1.heap.size) (w3.alloc (.cells #[.int .i64 n.f0, .string n.f1, .slice A0 n.f2.length c0, .int .i64 n.f3, .int .i64 m.f0, .string m.f1, .slice B m.f2.length d0, .int .i64 m.f3] 58)) ⟨8, t.f1, [n, m], t.f2⟩ (some ⟨w3.heap.size, 0, none⟩) 2) :=
              ⟨⟨Nat.le_refl 2, fun W k => kids2_new hN3.out (hM'.out.kept (T := fun _ => False) (Kept.refl _ _) (fun _ _ q => q.elim) (fun j _ q => by show j < wr.heap.size; omega)) (by omega) k⟩⟩
            have hlt4 : w3.heap.size < (w3.alloc (.cells #[.int .i64 n.f0, .string n.f1, .slice A0 n.f2.length c0, .int .i64 n.f3, .int .i64 m.f0, .string m.f1, .slice B m.f2.length d0, .int .i64 m.f3] 58)).heap.size := by simp
            generalize w3.alloc (.cells #[.int .i64 n.f0, .string n.f1, .slice A0 n.f2.length c0, .int .i64 n.f3, .int .i64 m.f0, .string m.f1, .slice B m.f2.length d0, .int .i64 m.f3] 58) = w4 at Y7 Y8 Y6 hR4 hKw4 hO4 hlt4 ⊢
            clear Z7 Z8 Z6 hR3' hKw3 c7 f7 c8 hM' hN3 hHeld
            have c7 := fun i => blk_cell Y7.out i
            have f7 := fun i => blk_frozen Y7.out i
            have c8 := fun i => blk_cell Y8.out i
            simp only [ndCs, tkCs] at c7 c8
            refine hK _ _ ⟨(c8 1).trans rfl, (c8 2).trans rfl, (c7 0).trans rfl, (c7 1).trans rfl, (c7 2).trans rfl, (c7 3).trans rfl⟩ (fun hHeld => ?_)
            clear hK K
            ((refine rpure (i := 8) (N := some 33) (v := ?_) (a' := ?_) rfl rfl (by kernel_rfl) (fun _ _ _ h => h) (Or.inl ⟨by rfl, ?_⟩) ?_ ?_); rotate_left; (· intro w'; go_simp; with_reducible rfl); rotate_left; (· (simp only [Act.put, List.setIfInBounds_toArray, List.set_cons_zero, List.set_cons_succ, i64_w, i32_w]; rfl)))
            refine rlast (i := 9) (N := none) rfl rfl (by kernel_rfl) (by decide) (fun K hK => ?_)
            rw [if_pos (by rfl)]
            unfold Oper.wp
            go_simp
            refine hK _ _ (done_ (by kernel_rfl) ?_)
            clear hK K hHeld
            have X7 := Aside0.mk (show ((((w4.setCell ⟨w1.heap.size, 0, none⟩ (.int .i64 8)).setCell ⟨w1.heap.size, 1, none⟩ (.string t.f1)).setCell ⟨w1.heap.size, 2, none⟩ (.slice (some ⟨w3.heap.size, 0, none⟩) 2 2)).setCell ⟨w1.heap.size, 3, none⟩ (.int .i64 t.f2)).heap[w1.heap.size]? = some (.cells (ndCs ⟨8, t.f1, [n, m], t.f2⟩ (some ⟨w3.heap.size, 0, none⟩) 2) 58 (0, 0)) from blk_set (blk_set (blk_set (blk_set Y7.out 0 _) 1 _) 2 _) 3 _)
            have X8 := Aside0.mk (show ((((w4.setCell ⟨w1.heap.size, 0, none⟩ (.int .i64 8)).setCell ⟨w1.heap.size, 1, none⟩ (.string t.f1)).setCell ⟨w1.heap.size, 2, none⟩ (.slice (some ⟨w3.heap.size, 0, none⟩) 2 2)).setCell ⟨w1.heap.size, 3, none⟩ (.int .i64 t.f2)).heap[b8]? = some (.cells (tkCs t) 87 (0, 0)) from blk_setO (blk_setO (blk_setO (blk_setO Y8.out hne7.symm) hne7.symm) hne7.symm) hne7.symm)
            have X6 := Aside0.mk (show ((((w4.setCell ⟨w1.heap.size, 0, none⟩ (.int .i64 8)).setCell ⟨w1.heap.size, 1, none⟩ (.string t.f1)).setCell ⟨w1.heap.size, 2, none⟩ (.slice (some ⟨w3.heap.size, 0, none⟩) 2 2)).setCell ⟨w1.heap.size, 3, none⟩ (.int .i64 t.f2)).heap[w.heap.size]? = some (.cells zeroNd 58 (0, 0)) from blk_setO (blk_setO (blk_setO (blk_setO Y6.out (by omega)) (by omega)) (by omega)) (by omega))
            have hR4o := hR4.out
            have hKw4o := hKw4.out
            have hR5 := Aside0.mk (show Rd g T ((((w4.setCell ⟨w1.heap.size, 0, none⟩ (.int .i64 8)).setCell ⟨w1.heap.size, 1, none⟩ (.string t.f1)).setCell ⟨w1.heap.size, 2, none⟩ (.slice (some ⟨w3.heap.size, 0, none⟩) 2 2)).setCell ⟨w1.heap.size, 3, none⟩ (.int .i64 t.f2)) l3 d from by (repeat' (first | (with_reducible assumption) | (with_reducible apply Rd.alloc) | (with_reducible apply Rd.drew) | (with_reducible apply Rd.drewN) | (with_reducible refine Rd.setO ?_ _ _ _ (by (first | (simp; done) | (simp; omega) | omega)) (by (first | (simp; done) | (simp; omega) | omega))))))
            have hKw5 := Aside0.mk (show Kept (fun k => k = g) w ((((w4.setCell ⟨w1.heap.size, 0, none⟩ (.int .i64 8)).setCell ⟨w1.heap.size, 1, none⟩ (.string t.f1)).setCell ⟨w1.heap.size, 2, none⟩ (.slice (some ⟨w3.heap.size, 0, none⟩) 2 2)).setCell ⟨w1.heap.size, 3, none⟩ (.int .i64 t.f2)) from by (repeat' (first | (with_reducible exact Kept.refl _ _) | (with_reducible assumption) | (with_reducible apply Kept.alloc) | (with_reducible apply Kept.drew) | (with_reducible apply Kept.drewN) | (with_reducible refine Kept.setCell ?_ _ _ _ ?_) | (with_reducible exact Or.inl rfl) | (left; assumption) | (right; simp; done) | (right; omega))))
            have hO5 := Aside0.mk (hO4.out.kept (S' := fun k => k ≤ w.heap.size ∨ k = w1.heap.size) (T := fun k => k = w1.heap.size) (show Kept _ w4 ((((w4.setCell ⟨w1.heap.size, 0, none⟩ (.int .i64 8)).setCell ⟨w1.heap.size, 1, none⟩ (.string t.f1)).setCell ⟨w1.heap.size, 2, none⟩ (.slice (some ⟨w3.heap.size, 0, none⟩) 2 2)).setCell ⟨w1.heap.size, 3, none⟩ (.int .i64 t.f2)) from by (repeat' (first | (with_reducible exact Kept.refl _ _) | (with_reducible assumption) | (with_reducible apply Kept.alloc) | (with_reducible apply Kept.drew) | (with_reducible apply Kept.drewN) | (with_reducible refine Kept.setCell ?_ _ _ _ ?_) | (with_reducible exact Or.inl rfl) | (left; assumption) | (right; simp; done) | (right; omega)))) (fun j _ q => Or.inr q) (fun j _ q => q))
            have hlt5 : w3.heap.size < ((((w4.setCell ⟨w1.heap.size, 0, none⟩ (.int .i64 8)).setCell ⟨w1.heap.size, 1, none⟩ (.string t.f1)).setCell ⟨w1.heap.size, 2, none⟩ (.slice (some ⟨w3.heap.size, 0, none⟩) 2 2)).setCell ⟨w1.heap.size, 3, none⟩ (.int .i64 t.f2)).heap.size := by simpa using hlt4
            generalize ((((w4.setCell ⟨w1.heap.size, 0, none⟩ (.int .i64 8)).setCell ⟨w1.heap.size, 1, none⟩ (.string t.f1)).setCell ⟨w1.heap.size, 2, none⟩ (.slice (some ⟨w3.heap.size, 0, none⟩) 2 2)).setCell ⟨w1.heap.size, 3, none⟩ (.int .i64 t.f2)) = w5 at X7 X8 X6 hR5 hKw5 hO5 hlt5 ⊢
            clear Y7 Y8 Y6 hR4 hKw4 hO4 hlt4 hR4o hKw4o c7 f7 c8
            have c8 := fun i => blk_cell X8.out i
            simp only [tkCs] at c8
            go_wp2_with (fail)
            cases l3 with
            | nil => exact absurd hRow3.out (by cases gk <;> simp [rowL])
            | cons t5 r5 =>
              have hr5' : isIt ss t5 = true → r5 ≠ [] := fun q => row_rest hRow3.out q
              refine (is_calls g T _ t5 r5 d A cs ss (hR5.out.alloc _) (HS.out _ (hKw5.out.alloc _)) hcs hss hr5').mono ?_
              rintro e w6 ⟨rfl, hR6, hK6⟩
              have hs6 := hK6.size
              have X8n := Aside0.mk (hK6.blk (heap_alloc_new w5 _) (by omega))
              have X7n := Aside0.mk (hK6.blk (blk_alloc X7.out _) (by omega))
              have X6n := Aside0.mk (hK6.blk (blk_alloc X6.out _) (by omega))
              have hR6' := Aside0.mk hR6
              have hKw6 := Aside0.mk (Kept.trans (S := fun k => k = g) (a := w) (hKw5.out.alloc _) hK6 (fun _ _ h => h))
              have hK56 := Aside0.mk (Kept.trans (S := fun k => k = g) ((Kept.refl _ w5).alloc _) hK6 (fun _ _ h => h))
              simp at hs6
              have hKw5sz := hKw5.out.size
              clear hR6 hK6 X7 X8 X6 hR5 hKw5 c8
              unfold tokV
              have c8 := fun i => blk_cell X8n.out i
              have f8 := fun i => blk_frozen X8n.out i
              go_wp2_with (fail)
              go_roundg gk
              case measure => omega
              case rel =>
                have hR6o := hR6'.out
                have hKw6o := hKw6.out
                have hs5 := hKw5sz
                refine ⟨⟨⟨8, t.f1, [n, m], t.f2⟩, some ⟨w3.heap.size, 0, none⟩, 2, t5, r5, w5.heap.size, rfl, rfl, hRow3.out, ?_, ?_, ?_, ?_, by (repeat' (first | (with_reducible assumption) | (with_reducible apply Rd.alloc) | (with_reducible apply Rd.drew) | (with_reducible apply Rd.drewN) | (with_reducible refine Rd.setO ?_ _ _ _ (by (first | (simp; done) | (simp; omega) | omega)) (by (first | (simp; done) | (simp; omega) | omega))))), by (repeat' (first | (with_reducible exact Kept.refl _ _) | (with_reducible assumption) | (with_reducible apply Kept.alloc) | (with_reducible apply Kept.drew) | (with_reducible apply Kept.drewN) | (with_reducible refine Kept.setCell ?_ _ _ _ ?_) | (with_reducible exact Or.inl rfl) | (left; assumption) | (right; simp; done) | (right; omega))), by omega, by omega, by omega⟩⟩
                · exact blk_setO (blk_setO (blk_setO X7n.out (by omega)) (by omega)) (by omega)
                · exact blk_set (blk_set (blk_set X8n.out 0 _) 1 _) 2 _
                · exact blk_setO (blk_setO (blk_setO X6n.out (by omega)) (by omega)) (by omega)
                · have hK56o := hK56.out
                  exact hO5.out.kept (T := fun k => k = g) (by (repeat' (first | (with_reducible exact Kept.refl _ _) | (with_reducible assumption) | (with_reducible apply Kept.alloc) | (with_reducible apply Kept.drew) | (with_reducible apply Kept.drewN) | (with_reducible refine Kept.setCell ?_ _ _ _ ?_) | (with_reducible exact Or.inl rfl) | (left; assumption) | (right; simp; done) | (right; omega)))) (fun j _ q => by have q' : j = g := q; exact Or.inl (by omega)) (fun j _ q => q)
end Go.Proofs.YtfgogfdbjbnlbaaDoor.PExpr
end
section
namespace Go.Proofs.YtfgogfdbjbnlbaaDoor.PExpr
open Go.RowKit Go.Proofs.YtfgogfdbjbnlbaaDoorW.PrintWords Go.Proofs.YtfgogfdbjbnlbaaDoorW.PrintLast Go.Proofs.YtfgogfdbjbnlbaaDoorW.PrintMore
set_option linter.unusedVariables false
set_option linter.unusedSimpArgs false
theorem wrap_small (d : Int) (h0 : -100 ≤ d) (h1 : d ≤ 100) : IntKind.i64.wrap d = d := by
  rw [i64_w]
  unfold wrap64
  omega
set_option maxHeartbeats 1000000 in
set_option maxRecDepth 100000 in
theorem within_deep (F : FuncId) (g : Nat) (d pos : Int) (caps : Array Value) (w : World) (h1 : w.cell? ⟨g, 1, none⟩ = some (.int .i64 d)) (hz : w.frozen? ⟨g, 1, none⟩ = false) (hd0 : 0 ≤ d) (hd : d ≤ 20) (hdd : d + 1 > 20) :
    Calls Tryd.prog 78 #[.pointer (some ⟨g, 0, none⟩), .int .i64 pos, .func (.func F) #[] caps] w fun e w3 => Thrown e 31 pos ∧ Kept (fun k => k = g) w w3 := by
  have hw := wrap_small (d + 1) (by omega) (by omega)
  have hdd' : (20 : Int) < d + 1 := by omega
  have hdd2 := eq_true hdd'
  go_enter Tryd.func78, Tryd.ntmps78
  go_wp2_with (go_at_call 42; go_loud (refine (fail_calls _ _ _).mono ?_; rintro e w2 ⟨he, hb⟩; unfold Thrown at he; subst he))
  exact ⟨rfl, rfl, Kept.below (by (repeat' (first | (with_reducible exact Kept.refl _ _) | (with_reducible assumption) | (with_reducible apply Kept.alloc) | (with_reducible apply Kept.drew) | (with_reducible apply Kept.drewN) | (with_reducible refine Kept.setCell ?_ _ _ _ ?_) | (with_reducible exact Or.inl rfl) | (left; assumption) | (right; simp; done) | (right; omega)))) hb⟩
set_option maxHeartbeats 1000000 in
set_option maxRecDepth 100000 in
theorem within_calls (F : FuncId) (hF : ∀ args w, (callFunc F args).run Tryd.prog w = .ok (.enter F args) w) (g : Nat) (d pos : Int) (caps : Array Value) (w : World) (Q : World → Prop) (B : Ending → World → Prop) (h1 : w.cell? ⟨g, 1, none⟩ = some (.int .i64 d)) (hz : w.frozen? ⟨g, 1, none⟩ = false) (hd0 : 0 ≤ d) (hdd : ¬ d + 1 > 20)
    (hc : Calls Tryd.prog F caps (w.setCell ⟨g, 1, none⟩ (.int .i64 (d + 1))) fun e w2 => (e = .returned (.tuple #[]) ∧ Q w2 ∧ w2.cell? ⟨g, 1, none⟩ = some (.int .i64 (d + 1)) ∧ w2.frozen? ⟨g, 1, none⟩ = false) ∨ (∃ c, e = .panicked c ∧ B e w2)) :
    Calls Tryd.prog 78 #[.pointer (some ⟨g, 0, none⟩), .int .i64 pos, .func (.func F) #[] caps] w fun e w3 => (e = .returned (.tuple #[]) ∧ ∃ w2, Q w2 ∧ w3 = w2.setCell ⟨g, 1, none⟩ (.int .i64 d)) ∨ (∃ c, e = .panicked c ∧ B e w3) := by
  have hw := wrap_small (d + 1) (by omega) (by omega)
  have hw2 := wrap_small d (by omega) (by omega)
  have hdd' : ¬ (20 : Int) < d + 1 := by omega
  have hdd2 := eq_false hdd'
  have HC := Aside0.mk hc
  clear hc
  go_enter Tryd.func78, Tryd.ntmps78
  go_wp2_with (go_at_fn F; go_loud (refine HC.out.mono ?_; rintro e w2 (⟨rfl, hQ, c1, f1⟩ | ⟨c, rfl, hB⟩)))
  · go_end0
    exact Or.inl ⟨rfl, w2, hQ, by simp⟩
  · exact ⟨rfl, Or.inr ⟨c, rfl, hB⟩⟩
theorem post_set {g T b : Nat} {d : Int} {S : Nat → Prop} {w w2 : World} {n : Nd} {A : Option Addr} {c : Nat} {l : List Tk} (hN : NdS S w2 n A c) (hl : l ≠ []) (hR : Rd g T w2 l d) (hK : Kept (fun k => k = g) w w2) (hg : g < w.heap.size) (hT : T < w.heap.size) (hb : w.heap.size ≤ b) (hSb : S b) (hS : ∀ j, j < w.heap.size → S j) :
    Post g T d w (.ok n l) (.returned (ndV n A c)) ((((w2.setCell ⟨b, 0, none⟩ (.int .i64 n.f0)).setCell ⟨b, 1, none⟩ (.string n.f1)).setCell ⟨b, 2, none⟩ (.slice A n.f2.length c)).setCell ⟨b, 3, none⟩ (.int .i64 n.f3)) := by
  refine ⟨A, c, rfl, ?_, hl, by (repeat' (first | (with_reducible assumption) | (with_reducible apply Rd.alloc) | (with_reducible apply Rd.drew) | (with_reducible apply Rd.drewN) | (with_reducible refine Rd.setO ?_ _ _ _ (by (first | (simp; done) | (simp; omega) | omega)) (by (first | (simp; done) | (simp; omega) | omega))))), by (repeat' (first | (with_reducible exact Kept.refl _ _) | (with_reducible assumption) | (with_reducible apply Kept.alloc) | (with_reducible apply Kept.drew) | (with_reducible apply Kept.drewN) | (with_reducible refine Kept.setCell ?_ _ _ _ ?_) | (with_reducible exact Or.inl rfl) | (left; assumption) | (right; simp; done) | (right; omega)))⟩
  exact hN.kept (T := fun k => k = b) (by (repeat' (first | (with_reducible exact Kept.refl _ _) | (with_reducible assumption) | (with_reducible apply Kept.alloc) | (with_reducible apply Kept.drew) | (with_reducible apply Kept.drewN) | (with_reducible refine Kept.setCell ?_ _ _ _ ?_) | (with_reducible exact Or.inl rfl) | (left; assumption) | (right; simp; done) | (right; omega)))) (fun j _ q => by have q' : j = b := q; rw [q']; exact hSb) (fun j _ q => hS j q)
end Go.Proofs.YtfgogfdbjbnlbaaDoor.PExpr
end
section
namespace Go.Proofs.YtfgogfdbjbnlbaaDoor.PExpr
open Go.RowKit Go.Proofs.YtfgogfdbjbnlbaaDoorW.PrintWords Go.Proofs.YtfgogfdbjbnlbaaDoorW.PrintLast Go.Proofs.YtfgogfdbjbnlbaaDoorW.PrintMore
set_option linter.unusedVariables false
set_option linter.unusedSimpArgs false
theorem makeFunc_run : ∀ (fn : Fn) (first cap : Array Value) (w : World), (Instr.makeFunc fn first cap).run Tryd.prog w = .ok (.func fn first cap) w := fun _ _ _ _ => rfl
set_option maxHeartbeats 1000000 in
set_option maxRecDepth 100000 in
theorem prefix1_bad (F : FuncId) (hF : ∀ args w, (callFunc F args).run Tryd.prog w = .ok (.enter F args) w) (g T : Nat) (d : Int) (part : List Tk → Option Res) (hp : PartC g T d part F) (a bn : Nat) (l : List Tk) (why pos : Int) (w : World)
    (hl : l ≠ []) (hR : Rd g T w l d) (ha : w.cell? ⟨a, 0, none⟩ = some (.func (.func F) #[.pointer (some ⟨g, 0, none⟩)] #[])) (h : part l = some (.bad why pos)) :
    Calls Tryd.prog 79 #[.pointer (some ⟨a, 0, none⟩), .pointer (some ⟨bn, 0, none⟩)] w fun e w' => Thrown e why pos ∧ Kept (fun k => k = g) w w' := by
  have hc1 := Aside0.mk (hp w l _ hl hR h)
  clear hp
  go_enter Tryd.func79, Tryd.ntmps79
  go_wp2_with (go_at_fn F; go_loud (with_reducible refine hc1.out.mono ?_; intro e w1 hq; obtain ⟨rfl, hK1⟩ := Post.bad_ hq))
  exact ⟨rfl, rfl, hK1⟩
set_option maxHeartbeats 1000000 in
set_option maxRecDepth 100000 in
theorem prefix1_ok (F : FuncId) (hF : ∀ args w, (callFunc F args).run Tryd.prog w = .ok (.enter F args) w) (g T : Nat) (d : Int) (part : List Tk → Option Res) (hp : PartC g T d part F) (a bn : Nat) (l l' : List Tk) (m : Nd) (w : World) (cs : Array Value)
    (hl : l ≠ []) (hR : Rd g T w l d) (ha : w.cell? ⟨a, 0, none⟩ = some (.func (.func F) #[.pointer (some ⟨g, 0, none⟩)] #[])) (hbn : w.heap[bn]? = some (.cells cs 58 (0, 0))) (hcs : cs.size = 4) (hng : bn ≠ g) (h : part l = some (.ok m l')) :
    Calls Tryd.prog 79 #[.pointer (some ⟨a, 0, none⟩), .pointer (some ⟨bn, 0, none⟩)] w fun e w' => e = .returned (.tuple #[]) ∧ ∃ A c w1, w' = (w1.setCell ⟨bn, 2, none⟩ (.slice (some ⟨w1.heap.size, 0, none⟩) 1 1)).alloc (.cells (ndCs m A c) 58) ∧
      NdS (fun k => k < w.heap.size) w1 m A c ∧ l' ≠ [] ∧ Rd g T w1 l' d ∧ Kept (fun k => k = g) w w1 := by
  have hc1 := Aside0.mk (hp w l _ hl hR h)
  have hB := Aside0.mk hbn
  have hbl := blk_lt hbn
  have hc2 : cs[2]?.isSome = true := by simp [hcs]
  clear hp hbn
  go_enter Tryd.func79, Tryd.ntmps79
  go_wp2_with (go_at_fn F; go_loud (with_reducible refine hc1.out.mono ?_; intro e w1 hq; obtain ⟨A1, c1, rfl, hN1, hl1, hR1, hK1⟩ := Post.ok_ hq; clear hq; unfold ndV; have hb1 := Aside0.mk (hK1.blk hB.out hng); have hs1 := hK1.size; have q2 := blk_cell hb1.out 2; have z2 := blk_frozen hb1.out 2; have hbl1 : bn < w1.heap.size := by omega))
  go_end0
  exact ⟨rfl, A1, c1, w1, rfl, hN1, hl1, hR1, hK1⟩
set_option maxHeartbeats 2000000 in
set_option maxRecDepth 100000 in
theorem prefix_calls (Fa Fo : FuncId) (hFa : ∀ args w, (callFunc Fa args).run Tryd.prog w = .ok (.enter Fa args) w) (hFo : ∀ args w, (callFunc Fo args).run Tryd.prog w = .ok (.enter Fo args) w) (g T : Nat) (d kind : Int) (s : ByteArray) (again other : Int → List Tk → Option Res)
    (hpa : PartC g T (d + 1) (again (d + 1)) Fa) (hpo : PartC g T d (other d) Fo) (l : List Tk) (R : Res) (w : World) (hd0 : 0 ≤ d) (hd : d ≤ 20)
    (hl : l ≠ []) (hR : Rd g T w l d) (h : prefixP again other kind s d l = some R) :
    Calls Tryd.prog 75 #[.pointer (some ⟨g, 0, none⟩), .int .i64 kind, .string s, .func (.func Fa) #[.pointer (some ⟨g, 0, none⟩)] #[], .func (.func Fo) #[.pointer (some ⟨g, 0, none⟩)] #[]] w (Post g T d w R) := by
  cases l with
  | nil => exact absurd rfl hl
  | cons t r =>
  have hg := hR.lt
  have hT := hR.Tlt hl
  have hg1 : ∀ k, g < w.heap.size + k := fun k => by omega
  have hmf := makeFunc_run
  have HA := Aside0.mk hpa
  have HO := Aside0.mk hpo
  have HR := Aside0.mk hR
  clear hpa hpo hR
  have hr : isIt [s] t = true → r ≠ [] := fun q hr => by
    rw [prefixP, if_pos q, hr] at h
    cases h
  have H := Aside0.mk h
  clear h
  go_enter Tryd.func75, Tryd.ntmps75
  go_wp2_with (fail)
  have hS := strs_new ((w.alloc (.cells #[.func (.func Fa) #[.pointer (some ⟨g, 0, none⟩)] #[]] 89)).alloc (.cells zeroNd 58)) [s] #[.string s] rfl (by simp)
  simp only [World.size_alloc] at hS
  refine (is_calls g T _ t r d _ _ [s] (((HR.out.alloc _).alloc _).alloc _) hS (by simp) (by simp) hr).mono ?_
  rintro e w1 ⟨rfl, hR1, hK1⟩
  have hs1 := hK1.size
  simp at hs1
  have Z0 := Aside0.mk (hK1.blk (blk_alloc (blk_alloc (heap_alloc_new w _) _) _) (by omega))
  have Z1 := Aside0.mk (hK1.blk (k := w.heap.size + 1) (blk_alloc (by rw [← World.size_alloc w (.cells #[.func (.func Fa) #[.pointer (some ⟨g, 0, none⟩)] #[]] 89)]; exact heap_alloc_new _ _) _) (by omega))
  have hKw1 := Aside0.mk (Kept.trans (S := fun k => k = g) (a := w) (by (repeat' (first | (with_reducible exact Kept.refl _ _) | (with_reducible assumption) | (with_reducible apply Kept.alloc) | (with_reducible apply Kept.drew) | (with_reducible apply Kept.drewN) | (with_reducible refine Kept.setCell ?_ _ _ _ ?_) | (with_reducible exact Or.inl rfl) | (left; assumption) | (right; simp; done) | (right; omega)))) hK1 (fun _ _ h => h))
  have hR1' := Aside0.mk hR1
  clear hK1 hR1 hS
  have q0 := blk_cell Z0.out 0
  have q1 := fun i => blk_cell Z1.out i
  have f1 := fun i => blk_frozen Z1.out i
  unfold tokV
  cases hi : isIt [s] t with
  | false =>
    have hRo := hR1'.out
    rw [hi, if_neg (by simp)] at hRo
    have hh := H.out
    rw [prefixP, if_neg (by rw [hi]; simp)] at hh
    have hRo' := Aside0.mk hRo
    have hc := Aside0.mk (HO.out _ _ R (by simp) (hRo'.out.alloc (.cells (tkCs t) 87)) hh)
    clear hRo hh
    cases R with
    | bad why pos =>
      go_wp2_with (go_at_fn Fo; go_loud (with_reducible refine hc.out.mono ?_; intro e w2 hq; obtain ⟨rfl, hK2⟩ := Post.bad_ hq))
      exact ⟨rfl, rfl, Kept.trans (hKw1.out.alloc _) hK2 (fun _ _ h => h)⟩
    | ok n l' =>
      go_wp2_with (go_at_fn Fo; go_loud (with_reducible refine hc.out.mono ?_; intro e w2 hq; obtain ⟨A1, c1, rfl, hN2, hl2, hR2, hK2⟩ := Post.ok_ hq; clear hq; unfold ndV; have Z1n := Aside0.mk (hK2.blk (blk_alloc Z1.out _) (by omega)); clear q1 f1; have q1 := fun i => blk_cell Z1n.out i; have f1 := fun i => blk_frozen Z1n.out i))
      ((try simp only [Exit.inBlock, Exit.then]); refine bodyPost_ret (by simp [results, Tryd.results75, go_sem, *]; try rfl) rfl ?_)
      exact post_set (b := w.heap.size + 1) hN2 hl2 hR2 (Kept.trans (hKw1.out.alloc _) hK2 (fun _ _ h => h)) hg hT (by omega) (by show w.heap.size + 1 < _; simp; omega) (fun j q => by show j < _; simp; omega)
  | true =>
    have hr0 := hr hi
    have hRo := hR1'.out
    rw [hi, if_pos rfl] at hRo
    have hh := H.out
    rw [prefixP, if_pos hi, if_neg (by simpa using hr0)] at hh
    have hRo' := Aside0.mk hRo
    clear hRo
    by_cases hdd : d + 1 > 20
    · rw [if_pos hdd] at hh
      obtain rfl := Option.some.inj hh
      clear hh
      go_wp2_with (fail)
      obtain ⟨off, c, h0, h1, z0, z1, hc, hT', hC⟩ := ((hRo'.out.alloc (.cells (tkCs t) 87)).alloc (.cells #[.int .i64 kind, .string ⟨#[]⟩, .slice none 0 0, .int .i64 t.f2] 58)).cell
      refine (within_deep 79 g d t.f2 _ _ h1 z1 hd0 hd hdd).mono ?_
      rintro e w2 ⟨he, hK2⟩
      unfold Thrown at he
      subst he
      exact ⟨rfl, rfl, Kept.trans ((hKw1.out.alloc _).alloc _) hK2 (fun _ _ h => h)⟩
    · rw [if_neg hdd] at hh
      obtain ⟨r2, hr2, hh⟩ := Option.bind_eq_some_iff.mp hh
      have hf59 : ∀ args w, (callFunc 79 args).run Tryd.prog w = .ok (.enter 79 args) w := enters_of Tryd.func79 (by kernel_rfl) rfl
      have HF59 := Aside0.mk hf59
      clear hf59
      go_wp2_with (fail)
      have hRa := (hRo'.out.alloc (.cells (tkCs t) 87)).alloc (.cells #[.int .i64 kind, .string ⟨#[]⟩, .slice none 0 0, .int .i64 t.f2] 58)
      obtain ⟨off, c, h0, h1, z0, z1, hc, hT', hC⟩ := hRa.cell
      have hR6 := hRa.set1 (d + 1)
      have hKa : Kept (fun k => k = g) w ((w1.alloc (.cells (tkCs t) 87)).alloc (.cells #[.int .i64 kind, .string ⟨#[]⟩, .slice none 0 0, .int .i64 t.f2] 58)) := (hKw1.out.alloc _).alloc _
      have hlt : g < w1.heap.size := hRo'.out.lt
      have hsz : ((w1.alloc (.cells (tkCs t) 87)).alloc (.cells #[.int .i64 kind, .string ⟨#[]⟩, .slice none 0 0, .int .i64 t.f2] 58)).heap.size = w1.heap.size + 1 + 1 := by simp
      have Z13 : ((w1.alloc (.cells (tkCs t) 87)).alloc (.cells #[.int .i64 kind, .string ⟨#[]⟩, .slice none 0 0, .int .i64 t.f2] 58)).heap[w1.heap.size + 1]? = some (.cells #[.int .i64 kind, .string ⟨#[]⟩, .slice none 0 0, .int .i64 t.f2] 58 (0, 0)) := by
        rw [← World.size_alloc w1 (.cells (tkCs t) 87)]
        exact heap_alloc_new _ _
      have Z0a := blk_alloc (blk_alloc Z0.out (.cells (tkCs t) 87)) (.cells #[.int .i64 kind, .string ⟨#[]⟩, .slice none 0 0, .int .i64 t.f2] 58)
      have Z1a := blk_alloc (blk_alloc Z1.out (.cells (tkCs t) 87)) (.cells #[.int .i64 kind, .string ⟨#[]⟩, .slice none 0 0, .int .i64 t.f2] 58)
      generalize hW5 : ((w1.alloc (.cells (tkCs t) 87)).alloc (.cells #[.int .i64 kind, .string ⟨#[]⟩, .slice none 0 0, .int .i64 t.f2] 58)) = w5 at *
      have Z13' := blk_setO (v := .int .i64 (d + 1)) (i := 1) (b := g) Z13 (by omega)
      have Z0' := blk_setO (v := .int .i64 (d + 1)) (i := 1) (b := g) Z0a (by omega)
      have Z1' := blk_setO (v := .int .i64 (d + 1)) (i := 1) (b := g) Z1a (by omega)
      have hK6 : Kept (fun k => k = g) w (w5.setCell ⟨g, 1, none⟩ (.int .i64 (d + 1))) := by (repeat' (first | (with_reducible exact Kept.refl _ _) | (with_reducible assumption) | (with_reducible apply Kept.alloc) | (with_reducible apply Kept.drew) | (with_reducible apply Kept.drewN) | (with_reducible refine Kept.setCell ?_ _ _ _ ?_) | (with_reducible exact Or.inl rfl) | (left; assumption) | (right; simp; done) | (right; omega)))
      cases r2 with
      | bad why pos =>
        obtain rfl := Option.some.inj (show some (Res.bad why pos) = some R from hh)
        refine (within_calls 79 HF59.out g d t.f2 #[.pointer (some ⟨w.heap.size, 0, none⟩), .pointer (some ⟨w1.heap.size + 1, 0, none⟩)] w5 (fun _ => False) (fun e w3 => Thrown e why pos ∧ Kept (fun k => k = g) w w3) h1 z1 hd0 (by omega) ?_).mono ?_
        · refine (prefix1_bad Fa hFa g T (d + 1) (again (d + 1)) HA.out w.heap.size (w1.heap.size + 1) r why pos _ hr0 hR6 ?_ hr2).mono ?_
          · rw [blk_cell Z0']
            rfl
          · rintro e w2 ⟨he, hK2⟩
            exact Or.inr ⟨_, he, he, Kept.trans hK6 hK2 (fun _ _ h => h)⟩
        · rintro e w3 (⟨rfl, w2, hq, _⟩ | ⟨c2, rfl, hq⟩)
          · exact hq.elim
          · exact ⟨rfl, hq⟩
      | ok m l' =>
        obtain rfl := Option.some.inj (show some (Res.ok ⟨kind, ⟨#[]⟩, [m], t.f2⟩ l') = some R from hh)
        refine (within_calls 79 HF59.out g d t.f2 #[.pointer (some ⟨w.heap.size, 0, none⟩), .pointer (some ⟨w1.heap.size + 1, 0, none⟩)] w5
          (fun w2 => ∃ A c wc, w2 = (wc.setCell ⟨w1.heap.size + 1, 2, none⟩ (.slice (some ⟨wc.heap.size, 0, none⟩) 1 1)).alloc (.cells (ndCs m A c) 58) ∧ NdS (fun k => k < (w5.setCell ⟨g, 1, none⟩ (.int .i64 (d + 1))).heap.size) wc m A c ∧ l' ≠ [] ∧ Rd g T wc l' (d + 1) ∧ Kept (fun k => k = g) (w5.setCell ⟨g, 1, none⟩ (.int .i64 (d + 1))) wc)
          (fun e w3 => False) h1 z1 hd0 (by omega) ?_).mono ?_
        · refine (prefix1_ok Fa hFa g T (d + 1) (again (d + 1)) HA.out w.heap.size (w1.heap.size + 1) r l' m _ _ hr0 hR6 ?_ Z13' rfl (by omega) hr2).mono ?_
          · rw [blk_cell Z0']
            rfl
          · rintro e w2 ⟨rfl, A, c, wc, rfl, hN, hl', hRc, hKc⟩
            obtain ⟨_, _, _, e1, _, e2, _⟩ := ((hRc.setO (w1.heap.size + 1) 2 (.slice (some ⟨wc.heap.size, 0, none⟩) 1 1) (by omega) (by omega)).alloc (.cells (ndCs m A c) 58)).cell
            exact Or.inl ⟨rfl, ⟨A, c, wc, rfl, hN, hl', hRc, hKc⟩, e1, e2⟩
        · rintro e w3 (⟨rfl, w2, ⟨A, c, wc, rfl, hN, hl', hRc, hKc⟩, rfl⟩ | ⟨c2, rfl, hq⟩)
          · have hsc := hKc.size
            rw [World.size_setCell] at hsc hN
            rw [hsz] at hsc hN
            have X13 := Aside0.mk (blk_setO (v := .int .i64 d) (i := 1) (b := g) (blk_alloc (blk_set (hKc.blk Z13' (by omega)) 2 (.slice (some ⟨wc.heap.size, 0, none⟩) 1 1)) (.cells (ndCs m A c) 58)) (by omega))
            have X1 := Aside0.mk (blk_setO (v := .int .i64 d) (i := 1) (b := g) (blk_alloc (blk_setO (v := .slice (some ⟨wc.heap.size, 0, none⟩) 1 1) (i := 2) (b := w1.heap.size + 1) (hKc.blk Z1' (by omega)) (by omega)) (.cells (ndCs m A c) 58)) (by omega))
            have hRf := Aside0.mk (((hRc.setO (w1.heap.size + 1) 2 (.slice (some ⟨wc.heap.size, 0, none⟩) 1 1) (by omega) (by omega)).alloc (.cells (ndCs m A c) 58)).set1 d)
            have hKwc : Kept (fun k => k = g) w wc := Kept.trans hK6 hKc (fun _ _ h => h)
            have hKf := Aside0.mk (show Kept (fun k => k = g) w (((wc.setCell ⟨w1.heap.size + 1, 2, none⟩ (.slice (some ⟨wc.heap.size, 0, none⟩) 1 1)).alloc (.cells (ndCs m A c) 58)).setCell ⟨g, 1, none⟩ (.int .i64 d)) from by (repeat' (first | (with_reducible exact Kept.refl _ _) | (with_reducible assumption) | (with_reducible apply Kept.alloc) | (with_reducible apply Kept.drew) | (with_reducible apply Kept.drewN) | (with_reducible refine Kept.setCell ?_ _ _ _ ?_) | (with_reducible exact Or.inl rfl) | (left; assumption) | (right; simp; done) | (right; omega))))
            have hNf : Aside0 (NdS (fun k => k < w1.heap.size + 1 + 1) (((wc.setCell ⟨w1.heap.size + 1, 2, none⟩ (.slice (some ⟨wc.heap.size, 0, none⟩) 1 1)).alloc (.cells (ndCs m A c) 58)).setCell ⟨g, 1, none⟩ (.int .i64 d)) ⟨kind, ⟨#[]⟩, [m], t.f2⟩ (some ⟨wc.heap.size, 0, none⟩) 1) := by
              refine ⟨⟨Nat.le_refl 1, fun W k => ?_⟩⟩
              have hn := hN.kept (S' := fun k => k < w1.heap.size + 1 + 1) (T := fun k => k = w1.heap.size + 1) (w' := wc.setCell ⟨w1.heap.size + 1, 2, none⟩ (.slice (some ⟨wc.heap.size, 0, none⟩) 1 1)) (by (repeat' (first | (with_reducible exact Kept.refl _ _) | (with_reducible assumption) | (with_reducible apply Kept.alloc) | (with_reducible apply Kept.drew) | (with_reducible apply Kept.drewN) | (with_reducible refine Kept.setCell ?_ _ _ _ ?_) | (with_reducible exact Or.inl rfl) | (left; assumption) | (right; simp; done) | (right; omega)))) (fun j _ q => by have q' : j = w1.heap.size + 1 := q; show j < _; omega) (fun j _ q => q)
              have := kids1_new hn (W := W) (by rw [World.size_setCell]; omega) (Kept.trans (S := fun k => k < w1.heap.size + 1 + 1) (by refine Kept.setCell (Kept.refl _ _) _ _ _ (Or.inl ?_); show g < _; omega) k (fun _ _ h => h))
              rw [World.size_setCell] at this
              exact this
            clear Z13' Z1' Z0' Z13 Z0a Z1a hN hRc hKc hKwc hK6 hR6 hC hRa hKa h0 h1 z0 z1 q0 q1 f1
            generalize (((wc.setCell ⟨w1.heap.size + 1, 2, none⟩ (.slice (some ⟨wc.heap.size, 0, none⟩) 1 1)).alloc (.cells (ndCs m A c) 58)).setCell ⟨g, 1, none⟩ (.int .i64 d)) = wf at *
            have c13 := fun i => blk_cell X13.out i
            have c1 := fun i => blk_cell X1.out i
            have f1 := fun i => blk_frozen X1.out i
            go_wp2_with (fail)
            ((try simp only [Exit.inBlock, Exit.then]); refine bodyPost_ret (by simp [results, Tryd.results75, go_sem, *]; try rfl) rfl ?_)
            exact post_set (b := w.heap.size + 1) (n := ⟨kind, ⟨#[]⟩, [m], t.f2⟩) hNf.out hl' hRf.out hKf.out hg hT (by omega) (by show w.heap.size + 1 < _; omega) (fun j q => by show j < _; omega)
          · exact hq.elim
end Go.Proofs.YtfgogfdbjbnlbaaDoor.PExpr
end
section
namespace Go.Proofs.YtfgogfdbjbnlbaaDoor.PExpr
open Go.RowKit Go.Proofs.YtfgogfdbjbnlbaaDoorW.PrintWords Go.Proofs.YtfgogfdbjbnlbaaDoorW.PrintLast Go.Proofs.YtfgogfdbjbnlbaaDoorW.PrintMore
set_option linter.unusedVariables false
set_option linter.unusedSimpArgs false
theorem strs_kept {S : Nat → Prop} {w W : World} (ss : List ByteArray) (cs : Array Value) (h : cs.toList = ss.map Value.string) (hl : ss.length ≤ 4000000000) (k : Kept S (w.alloc (.cells cs 9)) W) (hS : ¬ S w.heap.size) : Kd.C Kd.string W (some ⟨w.heap.size, 0, none⟩) ss.length ss := by
  have hb := k.blk (heap_alloc_new w _) hS
  refine Kd.C_of_reads (d := ByteArray.empty) ⟨rfl, by omega, fun _ => ⟨_, rfl, fun j hj => ?_⟩⟩
  have e : cs[j]? = some (.string (ss.getD j ByteArray.empty)) := by
    rw [← Array.getElem?_toList, h, List.getElem?_map, List.getD_eq_getElem?_getD, List.getElem?_eq_getElem hj]
    rfl
  rw [add_plain]
  try rw [Nat.zero_add]
  rw [blk_cell hb, e]
set_option maxHeartbeats 1000000 in
set_option maxRecDepth 100000 in
theorem or_calls (g T : Nat) (d : Int) (part : List Tk → Option Res) (hp : PartC g T d part 59) (k : Nat) (l : List Tk) (R : Res) (w : World) (hl : l ≠ []) (hR : Rd g T w l d) (h : rowP part [sOr] k l = some R) :
    Calls Tryd.prog 41 #[.pointer (some ⟨g, 0, none⟩)] w (Post g T d w R) := by
  have hg := hR.lt
  have hT := hR.Tlt hl
  have hmf := makeFunc_run
  have HP := Aside0.mk hp
  have HR := Aside0.mk hR
  have H := Aside0.mk h
  clear hp hR h
  go_enter Tryd.func41, Tryd.ntmps41
  go_wp2_with (fail)
  have hS := fun (W : World) (q : Kept (fun k => k = g) ((w.alloc (.cells zeroNd 58)).alloc (.cells #[.string sOr] 9)) W) => strs_kept [sOr] #[.string sOr] rfl (by simp) q (by simp; omega)
  simp only [World.size_alloc] at hS
  have hc := row_calls 59 (enters_of Tryd.func59 (by kernel_rfl) rfl) g T d part HP.out (some ⟨w.heap.size + 1, 0, none⟩) 1 [sOr] k l R _ hl ((HR.out.alloc _).alloc _) hS (by simp) (by simp) H.out
  have Z := Aside0.mk (blk_alloc (heap_alloc_new w (.cells zeroNd 58)) (.cells #[.string sOr] 9))
  cases R with
  | bad why pos =>
    refine hc.mono ?_
    intro e w1 hq
    obtain ⟨rfl, hK1⟩ := Post.bad_ hq
    exact ⟨rfl, rfl, Kept.trans (((Kept.refl _ w).alloc _).alloc _) hK1 (fun _ _ h => h)⟩
  | ok n l' =>
    refine hc.mono ?_
    intro e w1 hq
    obtain ⟨A1, c1, rfl, hN1, hl1, hR1, hK1⟩ := Post.ok_ hq
    have Z1 := hK1.blk Z.out (by omega)
    have q := fun i => blk_cell Z1 i
    have f := fun i => blk_frozen Z1 i
    have hK := Kept.trans (S := fun k => k = g) (((Kept.refl _ w).alloc _).alloc _) hK1 (fun _ _ h => h)
    unfold ndV
    clear hq hc Z1
    have hN := Aside0.mk hN1
    have hR' := Aside0.mk hR1
    have hK' := Aside0.mk hK
    clear hN1 hR1 hK hK1 hS
    go_wp2_with (fail)
    ((try simp only [Exit.inBlock, Exit.then]); refine bodyPost_ret (by simp [results, Tryd.results41, go_sem, *]; try rfl) rfl ?_)
    exact post_set (b := w.heap.size) hN.out hl1 hR'.out hK'.out hg hT (Nat.le_refl _) (by show _ < _; simp; omega) (fun j q => by show j < _; simp; omega)
set_option maxHeartbeats 1000000 in
set_option maxRecDepth 100000 in
theorem and_calls (g T : Nat) (d : Int) (part : List Tk → Option Res) (hp : PartC g T d part 71) (k : Nat) (l : List Tk) (R : Res) (w : World) (hl : l ≠ []) (hR : Rd g T w l d) (h : rowP part [sAnd] k l = some R) :
    Calls Tryd.prog 59 #[.pointer (some ⟨g, 0, none⟩)] w (Post g T d w R) := by
  have hg := hR.lt
  have hT := hR.Tlt hl
  have hmf := makeFunc_run
  have HP := Aside0.mk hp
  have HR := Aside0.mk hR
  have H := Aside0.mk h
  clear hp hR h
  go_enter Tryd.func59, Tryd.ntmps59
  go_wp2_with (fail)
  have hS := fun (W : World) (q : Kept (fun k => k = g) ((w.alloc (.cells zeroNd 58)).alloc (.cells #[.string sAnd] 9)) W) => strs_kept [sAnd] #[.string sAnd] rfl (by simp) q (by simp; omega)
  simp only [World.size_alloc] at hS
  have hc := row_calls 71 (enters_of Tryd.func71 (by kernel_rfl) rfl) g T d part HP.out (some ⟨w.heap.size + 1, 0, none⟩) 1 [sAnd] k l R _ hl ((HR.out.alloc _).alloc _) hS (by simp) (by simp) H.out
  have Z := Aside0.mk (blk_alloc (heap_alloc_new w (.cells zeroNd 58)) (.cells #[.string sAnd] 9))
  cases R with
  | bad why pos =>
    refine hc.mono ?_
    intro e w1 hq
    obtain ⟨rfl, hK1⟩ := Post.bad_ hq
    exact ⟨rfl, rfl, Kept.trans (((Kept.refl _ w).alloc _).alloc _) hK1 (fun _ _ h => h)⟩
  | ok n l' =>
    refine hc.mono ?_
    intro e w1 hq
    obtain ⟨A1, c1, rfl, hN1, hl1, hR1, hK1⟩ := Post.ok_ hq
    have Z1 := hK1.blk Z.out (by omega)
    have q := fun i => blk_cell Z1 i
    have f := fun i => blk_frozen Z1 i
    have hK := Kept.trans (S := fun k => k = g) (((Kept.refl _ w).alloc _).alloc _) hK1 (fun _ _ h => h)
    unfold ndV
    clear hq hc Z1
    have hN := Aside0.mk hN1
    have hR' := Aside0.mk hR1
    have hK' := Aside0.mk hK
    clear hN1 hR1 hK hK1 hS
    go_wp2_with (fail)
    ((try simp only [Exit.inBlock, Exit.then]); refine bodyPost_ret (by simp [results, Tryd.results59, go_sem, *]; try rfl) rfl ?_)
    exact post_set (b := w.heap.size) hN.out hl1 hR'.out hK'.out hg hT (Nat.le_refl _) (by show _ < _; simp; omega) (fun j q => by show j < _; simp; omega)
set_option maxHeartbeats 1000000 in
set_option maxRecDepth 100000 in
theorem sum_calls (g T : Nat) (d : Int) (part : List Tk → Option Res) (hp : PartC g T d part 82) (k : Nat) (l : List Tk) (R : Res) (w : World) (hl : l ≠ []) (hR : Rd g T w l d) (h : rowP part [sPlus, sMinus] k l = some R) :
    Calls Tryd.prog 80 #[.pointer (some ⟨g, 0, none⟩)] w (Post g T d w R) := by
  have hg := hR.lt
  have hT := hR.Tlt hl
  have hmf := makeFunc_run
  have HP := Aside0.mk hp
  have HR := Aside0.mk hR
  have H := Aside0.mk h
  clear hp hR h
  go_enter Tryd.func80, Tryd.ntmps80
  go_wp2_with (fail)
  have hS := fun (W : World) (q : Kept (fun k => k = g) ((w.alloc (.cells zeroNd 58)).alloc (.cells #[.string sPlus, .string sMinus] 9)) W) => strs_kept [sPlus, sMinus] #[.string sPlus, .string sMinus] rfl (by simp) q (by simp; omega)
  simp only [World.size_alloc] at hS
  have hc := row_calls 82 (enters_of Tryd.func82 (by kernel_rfl) rfl) g T d part HP.out (some ⟨w.heap.size + 1, 0, none⟩) 2 [sPlus, sMinus] k l R _ hl ((HR.out.alloc _).alloc _) hS (by simp) (by simp) H.out
  have Z := Aside0.mk (blk_alloc (heap_alloc_new w (.cells zeroNd 58)) (.cells #[.string sPlus, .string sMinus] 9))
  cases R with
  | bad why pos =>
    refine hc.mono ?_
    intro e w1 hq
    obtain ⟨rfl, hK1⟩ := Post.bad_ hq
    exact ⟨rfl, rfl, Kept.trans (((Kept.refl _ w).alloc _).alloc _) hK1 (fun _ _ h => h)⟩
  | ok n l' =>
    refine hc.mono ?_
    intro e w1 hq
    obtain ⟨A1, c1, rfl, hN1, hl1, hR1, hK1⟩ := Post.ok_ hq
    have Z1 := hK1.blk Z.out (by omega)
    have q := fun i => blk_cell Z1 i
    have f := fun i => blk_frozen Z1 i
    have hK := Kept.trans (S := fun k => k = g) (((Kept.refl _ w).alloc _).alloc _) hK1 (fun _ _ h => h)
    unfold ndV
    clear hq hc Z1
    have hN := Aside0.mk hN1
    have hR' := Aside0.mk hR1
    have hK' := Aside0.mk hK
    clear hN1 hR1 hK hK1 hS
    go_wp2_with (fail)
    ((try simp only [Exit.inBlock, Exit.then]); refine bodyPost_ret (by simp [results, Tryd.results80, go_sem, *]; try rfl) rfl ?_)
    exact post_set (b := w.heap.size) hN.out hl1 hR'.out hK'.out hg hT (Nat.le_refl _) (by show _ < _; simp; omega) (fun j q => by show j < _; simp; omega)
set_option maxHeartbeats 1000000 in
set_option maxRecDepth 100000 in
theorem term_calls (g T : Nat) (d : Int) (part : List Tk → Option Res) (hp : PartC g T d part 84) (k : Nat) (l : List Tk) (R : Res) (w : World) (hl : l ≠ []) (hR : Rd g T w l d) (h : rowP part [sStar, sSlash, sPer] k l = some R) :
    Calls Tryd.prog 82 #[.pointer (some ⟨g, 0, none⟩)] w (Post g T d w R) := by
  have hg := hR.lt
  have hT := hR.Tlt hl
  have hmf := makeFunc_run
  have HP := Aside0.mk hp
  have HR := Aside0.mk hR
  have H := Aside0.mk h
  clear hp hR h
  go_enter Tryd.func82, Tryd.ntmps82
  go_wp2_with (fail)
  have hS := fun (W : World) (q : Kept (fun k => k = g) ((w.alloc (.cells zeroNd 58)).alloc (.cells #[.string sStar, .string sSlash, .string sPer] 9)) W) => strs_kept [sStar, sSlash, sPer] #[.string sStar, .string sSlash, .string sPer] rfl (by simp) q (by simp; omega)
  simp only [World.size_alloc] at hS
  have hc := row_calls 84 (enters_of Tryd.func84 (by kernel_rfl) rfl) g T d part HP.out (some ⟨w.heap.size + 1, 0, none⟩) 3 [sStar, sSlash, sPer] k l R _ hl ((HR.out.alloc _).alloc _) hS (by simp) (by simp) H.out
  have Z := Aside0.mk (blk_alloc (heap_alloc_new w (.cells zeroNd 58)) (.cells #[.string sStar, .string sSlash, .string sPer] 9))
  cases R with
  | bad why pos =>
    refine hc.mono ?_
    intro e w1 hq
    obtain ⟨rfl, hK1⟩ := Post.bad_ hq
    exact ⟨rfl, rfl, Kept.trans (((Kept.refl _ w).alloc _).alloc _) hK1 (fun _ _ h => h)⟩
  | ok n l' =>
    refine hc.mono ?_
    intro e w1 hq
    obtain ⟨A1, c1, rfl, hN1, hl1, hR1, hK1⟩ := Post.ok_ hq
    have Z1 := hK1.blk Z.out (by omega)
    have q := fun i => blk_cell Z1 i
    have f := fun i => blk_frozen Z1 i
    have hK := Kept.trans (S := fun k => k = g) (((Kept.refl _ w).alloc _).alloc _) hK1 (fun _ _ h => h)
    unfold ndV
    clear hq hc Z1
    have hN := Aside0.mk hN1
    have hR' := Aside0.mk hR1
    have hK' := Aside0.mk hK
    clear hN1 hR1 hK hK1 hS
    go_wp2_with (fail)
    ((try simp only [Exit.inBlock, Exit.then]); refine bodyPost_ret (by simp [results, Tryd.results82, go_sem, *]; try rfl) rfl ?_)
    exact post_set (b := w.heap.size) hN.out hl1 hR'.out hK'.out hg hT (Nat.le_refl _) (by show _ < _; simp; omega) (fun j q => by show j < _; simp; omega)
set_option maxHeartbeats 1000000 in
set_option maxRecDepth 100000 in
theorem not_calls (g T : Nat) (d : Int) (again other : Int → List Tk → Option Res) (hpa : PartC g T (d + 1) (again (d + 1)) 71) (hpo : PartC g T d (other d) 76) (l : List Tk) (R : Res) (w : World) (hd0 : 0 ≤ d) (hd : d ≤ 20) (hl : l ≠ []) (hR : Rd g T w l d)
    (h : prefixP again other 7 sNot d l = some R) :
    Calls Tryd.prog 71 #[.pointer (some ⟨g, 0, none⟩)] w (Post g T d w R) := by
  have hg := hR.lt
  have hT := hR.Tlt hl
  have hmf := makeFunc_run
  have HA := Aside0.mk hpa
  have HO := Aside0.mk hpo
  have HR := Aside0.mk hR
  have H := Aside0.mk h
  clear hpa hpo hR h
  go_enter Tryd.func71, Tryd.ntmps71
  go_wp2_with (fail)
  have hc := prefix_calls 71 76 (enters_of Tryd.func71 (by kernel_rfl) rfl) (enters_of Tryd.func76 (by kernel_rfl) rfl) g T d 7 sNot again other HA.out HO.out l R _ hd0 hd hl (HR.out.alloc (.cells zeroNd 58)) H.out
  have Z := Aside0.mk (heap_alloc_new w (.cells zeroNd 58))
  cases R with
  | bad why pos =>
    refine hc.mono ?_
    intro e w1 hq
    obtain ⟨rfl, hK1⟩ := Post.bad_ hq
    exact ⟨rfl, rfl, Kept.trans ((Kept.refl _ w).alloc _) hK1 (fun _ _ h => h)⟩
  | ok n l' =>
    refine hc.mono ?_
    intro e w1 hq
    obtain ⟨A1, c1, rfl, hN1, hl1, hR1, hK1⟩ := Post.ok_ hq
    have Z1 := hK1.blk Z.out (by omega)
    have q := fun i => blk_cell Z1 i
    have f := fun i => blk_frozen Z1 i
    have hK := Kept.trans (S := fun k => k = g) ((Kept.refl _ w).alloc _) hK1 (fun _ _ h => h)
    unfold ndV
    clear hq hc Z1
    have hN := Aside0.mk hN1
    have hR' := Aside0.mk hR1
    have hK' := Aside0.mk hK
    clear hN1 hR1 hK hK1
    go_wp2_with (fail)
    ((try simp only [Exit.inBlock, Exit.then]); refine bodyPost_ret (by simp [results, Tryd.results71, go_sem, *]; try rfl) rfl ?_)
    exact post_set (b := w.heap.size) hN.out hl1 hR'.out hK'.out hg hT (Nat.le_refl _) (by show _ < _; simp) (fun j q => by show j < _; simp; omega)
set_option maxHeartbeats 1000000 in
set_option maxRecDepth 100000 in
theorem unary_calls (g T : Nat) (d : Int) (again other : Int → List Tk → Option Res) (hpa : PartC g T (d + 1) (again (d + 1)) 84) (hpo : PartC g T d (other d) 85) (l : List Tk) (R : Res) (w : World) (hd0 : 0 ≤ d) (hd : d ≤ 20) (hl : l ≠ []) (hR : Rd g T w l d)
    (h : prefixP again other 6 sMinus d l = some R) :
    Calls Tryd.prog 84 #[.pointer (some ⟨g, 0, none⟩)] w (Post g T d w R) := by
  have hg := hR.lt
  have hT := hR.Tlt hl
  have hmf := makeFunc_run
  have HA := Aside0.mk hpa
  have HO := Aside0.mk hpo
  have HR := Aside0.mk hR
  have H := Aside0.mk h
  clear hpa hpo hR h
  go_enter Tryd.func84, Tryd.ntmps84
  go_wp2_with (fail)
  have hc := prefix_calls 84 85 (enters_of Tryd.func84 (by kernel_rfl) rfl) (enters_of Tryd.func85 (by kernel_rfl) rfl) g T d 6 sMinus again other HA.out HO.out l R _ hd0 hd hl (HR.out.alloc (.cells zeroNd 58)) H.out
  have Z := Aside0.mk (heap_alloc_new w (.cells zeroNd 58))
  cases R with
  | bad why pos =>
    refine hc.mono ?_
    intro e w1 hq
    obtain ⟨rfl, hK1⟩ := Post.bad_ hq
    exact ⟨rfl, rfl, Kept.trans ((Kept.refl _ w).alloc _) hK1 (fun _ _ h => h)⟩
  | ok n l' =>
    refine hc.mono ?_
    intro e w1 hq
    obtain ⟨A1, c1, rfl, hN1, hl1, hR1, hK1⟩ := Post.ok_ hq
    have Z1 := hK1.blk Z.out (by omega)
    have q := fun i => blk_cell Z1 i
    have f := fun i => blk_frozen Z1 i
    have hK := Kept.trans (S := fun k => k = g) ((Kept.refl _ w).alloc _) hK1 (fun _ _ h => h)
    unfold ndV
    clear hq hc Z1
    have hN := Aside0.mk hN1
    have hR' := Aside0.mk hR1
    have hK' := Aside0.mk hK
    clear hN1 hR1 hK hK1
    go_wp2_with (fail)
    ((try simp only [Exit.inBlock, Exit.then]); refine bodyPost_ret (by simp [results, Tryd.results84, go_sem, *]; try rfl) rfl ?_)
    exact post_set (b := w.heap.size) hN.out hl1 hR'.out hK'.out hg hT (Nat.le_refl _) (by show _ < _; simp) (fun j q => by show j < _; simp; omega)
end Go.Proofs.YtfgogfdbjbnlbaaDoor.PExpr
end
section
namespace Go.Proofs.YtfgogfdbjbnlbaaDoor.PExpr
open Go.RowKit Go.Proofs.YtfgogfdbjbnlbaaDoorW.PrintWords Go.Proofs.YtfgogfdbjbnlbaaDoorW.PrintLast Go.Proofs.YtfgogfdbjbnlbaaDoorW.PrintMore
set_option linter.unusedVariables false
set_option linter.unusedSimpArgs false
abbrev cmpCs : Array Value := #[.string ⟨#[61]⟩, .string ⟨#[60, 62]⟩, .string ⟨#[60]⟩, .string ⟨#[60, 61]⟩, .string ⟨#[62]⟩, .string ⟨#[62, 61]⟩]
set_option maxHeartbeats 2000000 in
set_option maxRecDepth 100000 in
theorem cmp_calls (g T : Nat) (d : Int) (part : List Tk → Option Res) (hp : PartC g T d part 80) (l : List Tk) (R : Res) (w : World) (hl : l ≠ []) (hR : Rd g T w l d) (h : cmpP part l = some R) :
    Calls Tryd.prog 76 #[.pointer (some ⟨g, 0, none⟩)] w (Post g T d w R) := by
  have hg := hR.lt
  have hT := hR.Tlt hl
  have HP := Aside0.mk hp
  unfold cmpP at h
  obtain ⟨r1, hr1, h⟩ := Option.bind_eq_some_iff.mp h
  have hc1 := Aside0.mk (hp (w.alloc (.cells zeroNd 58)) l r1 hl (hR.alloc _) hr1)
  clear hp
  cases r1 with
  | bad why pos =>
    obtain rfl := Option.some.inj (show some (Res.bad why pos) = some R from h)
    go_enter Tryd.func76, Tryd.ntmps76
    go_wp2_with (go_at_call 80; go_loud (with_reducible refine hc1.out.mono ?_; intro e w1 hq; obtain ⟨rfl, hK1⟩ := Post.bad_ hq))
    exact ⟨rfl, rfl, Kept.trans (by (repeat' (first | (with_reducible exact Kept.refl _ _) | (with_reducible assumption) | (with_reducible apply Kept.alloc) | (with_reducible apply Kept.drew) | (with_reducible apply Kept.drewN) | (with_reducible refine Kept.setCell ?_ _ _ _ ?_) | (with_reducible exact Or.inl rfl) | (left; assumption) | (right; simp; done) | (right; omega)))) hK1 (fun _ _ h => h)⟩
  | ok n l1 =>
    cases l1 with
    | nil => cases h
    | cons t r =>
    have hr : isIt cmps t = true → r ≠ [] := fun q hr => by
      replace h : (if isIt cmps t = true then if r.isEmpty = true then none else (part r).bind fun m => m.then fun m l => some (.ok ⟨8, t.f1, [n, m], t.f2⟩ l) else some (.ok n (t :: r))) = some R := h
      rw [if_pos q, hr] at h
      cases h
    have H := Aside0.mk (show (if isIt cmps t = true then if r.isEmpty = true then none else (part r).bind fun m => m.then fun m l => some (.ok ⟨8, t.f1, [n, m], t.f2⟩ l) else some (.ok n (t :: r))) = some R from h)
    clear h
    go_enter Tryd.func76, Tryd.ntmps76
    go_wp2_with (go_at_call 80; go_loud (with_reducible refine hc1.out.mono ?_; intro e w1 hq; obtain ⟨A1, c1, rfl, hN1, hl1, hR1, hK1⟩ := Post.ok_ hq; unfold ndV; clear hq; have HN1 := Aside0.mk hN1; have HR1 := Aside0.mk hR1; have HK1 := Aside0.mk hK1; clear hN1 hR1 hK1))
    have hs1 := HK1.out.size
    simp at hs1
    have hS := strs_new (w1.alloc (.cells (ndCs n A1 c1) 58)) cmps cmpCs rfl (by decide)
    simp only [World.size_alloc] at hS
    have hKw1 := Aside0.mk (Kept.trans (S := fun k => k = g) (a := w) ((Kept.refl _ w).alloc _) HK1.out (fun _ _ h => h))
    refine (is_calls g T _ t r d _ _ cmps ((HR1.out.alloc _).alloc _) hS (by decide) (by decide) hr).mono ?_
    rintro e w2 ⟨rfl, hR2, hK2⟩
    have hs2 := hK2.size
    simp at hs2
    have hg1 : g < w1.heap.size := by omega
    have hl3 : w1.heap.size < w2.heap.size := by omega
    have hl2 : w.heap.size < w2.heap.size := by omega
    have Z2 := Aside0.mk (hK2.blk (blk_alloc (blk_alloc (HK1.out.blk (heap_alloc_new w _) (by omega)) _) _) (by omega))
    have Z3 := Aside0.mk (hK2.blk (blk_alloc (heap_alloc_new w1 (.cells (ndCs n A1 c1) 58)) _) (by omega))
    have hN2 := Aside0.mk (HN1.out.kept (S' := fun k => k ≤ w.heap.size ∨ k = w1.heap.size) (Kept.trans (S := fun k => k = g) (((Kept.refl _ w1).alloc _).alloc _) hK2 (fun _ _ h => h)) (fun j _ q => by have q' : j = g := q; show j < _; simp; omega) (fun j hj q => by show j < _; have q' : j ≤ w.heap.size ∨ j = w1.heap.size := q; simp; omega))
    have hKw2 := Aside0.mk (Kept.trans (S := fun k => k = g) (a := w) ((hKw1.out.alloc _).alloc _) hK2 (fun _ _ h => h))
    have HR2 := Aside0.mk hR2
    clear hR2 hK2 hS HN1 HR1 HK1 hKw1
    unfold tokV
    have q2 := fun i => blk_cell Z2.out i
    have f2 := fun i => blk_frozen Z2.out i
    have q3 := fun i => blk_cell Z3.out i
    simp only [ndCs] at q3
    cases hi : isIt cmps t with
    | false =>
      have hh := H.out
      rw [if_neg (by rw [hi]; simp)] at hh
      obtain rfl := Option.some.inj hh
      have hRo := HR2.out
      rw [hi, if_neg (by simp)] at hRo
      have hRo' := Aside0.mk hRo
      clear hRo hh
      go_wp2_with (fail)
      ((try simp only [Exit.inBlock, Exit.then]); refine bodyPost_ret (by simp [results, Tryd.results76, go_sem, *]; try rfl) rfl ?_)
      have hRoo := hRo'.out
      have hK := hKw2.out
      refine ⟨A1, c1, rfl, ?_, by simp, by (repeat' (first | (with_reducible assumption) | (with_reducible apply Rd.alloc) | (with_reducible apply Rd.drew) | (with_reducible apply Rd.drewN) | (with_reducible refine Rd.setO ?_ _ _ _ (by (first | (simp; done) | (simp; omega) | omega)) (by (first | (simp; done) | (simp; omega) | omega))))), by (repeat' (first | (with_reducible exact Kept.refl _ _) | (with_reducible assumption) | (with_reducible apply Kept.alloc) | (with_reducible apply Kept.drew) | (with_reducible apply Kept.drewN) | (with_reducible refine Kept.setCell ?_ _ _ _ ?_) | (with_reducible exact Or.inl rfl) | (left; assumption) | (right; simp; done) | (right; omega)))⟩
      exact hN2.out.kept (T := fun k => k = w.heap.size) (by (repeat' (first | (with_reducible exact Kept.refl _ _) | (with_reducible assumption) | (with_reducible apply Kept.alloc) | (with_reducible apply Kept.drew) | (with_reducible apply Kept.drewN) | (with_reducible refine Kept.setCell ?_ _ _ _ ?_) | (with_reducible exact Or.inl rfl) | (left; assumption) | (right; simp; done) | (right; omega)))) (fun j _ q => by have q' : j = w.heap.size := q; exact Or.inl (by omega)) (fun j _ q => by have q' : j < w.heap.size := q; exact Or.inl (by omega))
    | true =>
      have hr0 := hr hi
      have hh := H.out
      rw [if_pos hi, if_neg (by simpa using hr0)] at hh
      obtain ⟨r2, hr2, hh⟩ := Option.bind_eq_some_iff.mp hh
      have hRo := HR2.out
      rw [hi, if_pos rfl] at hRo
      have hRo' := Aside0.mk hRo
      clear hRo
      go_wp2_with (fail)
      have Y2 := Aside0.mk (blk_alloc Z2.out (.cells (tkCs t) 87))
      have Y3 := Aside0.mk (blk_alloc Z3.out (.cells (tkCs t) 87))
      have Y4 := Aside0.mk (heap_alloc_new w2 (.cells (tkCs t) 87))
      have q4 := fun i => blk_cell Y4.out i
      have q5 := fun i => blk_cell Y3.out i
      simp only [ndCs, tkCs] at q4 q5
      refine start_ (n := 10) (S := fun w' => w'.cell? ⟨w2.heap.size, 1, none⟩ = some (.string t.f1) ∧ w'.cell? ⟨w2.heap.size, 2, none⟩ = some (.int .i64 t.f2) ∧ w'.cell? ⟨w1.heap.size, 0, none⟩ = some (.int .i64 n.f0) ∧ w'.cell? ⟨w1.heap.size, 1, none⟩ = some (.string n.f1) ∧ w'.cell? ⟨w1.heap.size, 2, none⟩ = some (.slice A1 n.f2.length c1) ∧ w'.cell? ⟨w1.heap.size, 3, none⟩ = some (.int .i64 n.f3))
        (ds := [9]) #[false, false, false, false, false, false, false, false, false, false] (by kernel_rfl) rfl rfl ⟨(q4 1).trans rfl, (q4 2).trans rfl, (q5 0).trans rfl, (q5 1).trans rfl, (q5 2).trans rfl, (q5 3).trans rfl⟩ (fun hHeld => ?_)
      have hRd := Aside0.mk ((hRo'.out.alloc (.cells (tkCs t) 87)).drew)
      have hKd := Aside0.mk ((hKw2.out.alloc (.cells (tkCs t) 87)).drew)
      have hNd := Aside0.mk (hN2.out.kept (S' := fun k => k ≤ w.heap.size ∨ k = w1.heap.size) (T := fun _ => False) (((Kept.refl _ _).alloc (.cells (tkCs t) 87)).drew) (fun _ _ q => q.elim) (fun _ _ q => q))
      have Y2d := Aside0.mk (show (w2.alloc (.cells (tkCs t) 87)).drew.heap[w.heap.size]? = _ from Y2.out)
      have Y3d := Aside0.mk (show (w2.alloc (.cells (tkCs t) 87)).drew.heap[w1.heap.size]? = _ from Y3.out)
      have Y4d := Aside0.mk (show (w2.alloc (.cells (tkCs t) 87)).drew.heap[w2.heap.size]? = _ from Y4.out)
      have hsd : w2.heap.size < (w2.alloc (.cells (tkCs t) 87)).drew.heap.size := by rw [show (w2.alloc (.cells (tkCs t) 87)).drew.heap.size = (w2.alloc (.cells (tkCs t) 87)).heap.size from rfl]; simp
      generalize (w2.alloc (.cells (tkCs t) 87)).drew = wd at *
      clear Y2 Y3 Y4 q4 q5 q2 f2 q3 Z2 Z3 hN2 hKw2 HR2 hRo'
      ((refine rpure (i := 0) (N := some 15) (v := ?_) (a' := ?_) rfl rfl (by kernel_rfl) (fun _ _ _ h => h) (Or.inl ⟨by rfl, ?_⟩) ?_ ?_); rotate_left; (· intro w'; go_simp; with_reducible rfl); rotate_left; (· (simp only [Act.put, List.setIfInBounds_toArray, List.set_cons_zero, List.set_cons_succ, i64_w, i32_w]; rfl)))
      ((refine rtake (i := 1) (N := some 16) (v := ?_) (a' := ?_) rfl rfl (by kernel_rfl) (fun _ _ _ h => h) (Or.inl ⟨by rfl, ?_⟩) hHeld ?_ ?_); rotate_left; (· rintro w' ⟨s0, s1, s2, s3, s4, s5⟩; go_simp; with_reducible rfl); rotate_left; (· (simp only [Act.put, List.setIfInBounds_toArray, List.set_cons_zero, List.set_cons_succ, i64_w, i32_w]; rfl)))
      ((refine rtake (i := 2) (N := some 17) (v := ?_) (a' := ?_) rfl rfl (by kernel_rfl) (fun _ _ _ h => h) (Or.inl ⟨by rfl, ?_⟩) hHeld ?_ ?_); rotate_left; (· rintro w' ⟨s0, s1, s2, s3, s4, s5⟩; go_simp; with_reducible rfl); rotate_left; (· (simp only [Act.put, List.setIfInBounds_toArray, List.set_cons_zero, List.set_cons_succ, i64_w, i32_w]; rfl)))
      ((refine rpure (i := 3) (N := some 18) (v := ?_) (a' := ?_) rfl rfl (by kernel_rfl) (fun _ _ _ h => h) (Or.inl ⟨by rfl, ?_⟩) ?_ ?_); rotate_left; (· intro w'; go_simp; with_reducible rfl); rotate_left; (· (simp only [Act.put, List.setIfInBounds_toArray, List.set_cons_zero, List.set_cons_succ, i64_w, i32_w]; rfl)))
      ((refine rpure (i := 6) (N := some 21) (v := ?_) (a' := ?_) rfl rfl (by kernel_rfl) (fun _ _ _ h => h) (Or.inl ⟨by rfl, ?_⟩) ?_ ?_); rotate_left; (· intro w'; go_simp; with_reducible rfl); rotate_left; (· (simp only [Act.put, List.setIfInBounds_toArray, List.set_cons_zero, List.set_cons_succ, i64_w, i32_w]; rfl)))
      ((refine rtake (i := 7) (N := some 22) (v := ?_) (a' := ?_) rfl rfl (by kernel_rfl) (fun _ _ _ h => h) (Or.inl ⟨by rfl, ?_⟩) hHeld ?_ ?_); rotate_left; (· rintro w' ⟨s0, s1, s2, s3, s4, s5⟩; go_simp; with_reducible rfl); rotate_left; (· (simp only [Act.put, List.setIfInBounds_toArray, List.set_cons_zero, List.set_cons_succ, i64_w, i32_w]; rfl)))
      refine rone (i := 4) (N := some 19) rfl rfl (by kernel_rfl) (by decide) (fun K hK => ?_)
      have hc2 := HP.out wd r r2 hr0 hRd.out hr2
      refine rcall 80 #[.pointer (some ⟨g, 0, none⟩)] (by rfl) rfl (by go_simp) ?_
      cases r2 with
      | bad why pos =>
        obtain rfl := Option.some.inj (show some (Res.bad why pos) = some R from hh)
        refine hc2.mono ?_
        intro e w3 hp
        obtain ⟨rfl, hK3⟩ := Post.bad_ hp
        refine Or.inr ⟨_, rfl, rfl, rfl, ?_⟩
        exact Kept.trans hKd.out hK3 (fun _ _ h => h)
      | ok m l3 =>
        obtain rfl := Option.some.inj (show some (Res.ok ⟨8, t.f1, [n, m], t.f2⟩ l3) = some R from hh)
        refine hc2.mono ?_
        intro e w3 hp
        obtain ⟨B, d0, rfl, hM, hl3', hR3, hK3⟩ := Post.ok_ hp
        clear hp hc2
        have hs3 := hK3.size
        have X2 := Aside0.mk (hK3.blk Y2d.out (by omega))
        have X3 := Aside0.mk (hK3.blk Y3d.out (by omega))
        have X4 := Aside0.mk (hK3.blk Y4d.out (by omega))
        have hKw3 := Aside0.mk (Kept.trans hKd.out hK3 (fun _ _ h => h))
        have hM' := Aside0.mk hM
        have hR3' := Aside0.mk hR3
        have hN3 := Aside0.mk (hNd.out.kept (S' := fun k => k ≤ w.heap.size ∨ k = w1.heap.size) hK3 (fun j _ q => by have q' : j = g := q; exact Or.inl (by omega)) (fun j _ q => q))
        clear hM hR3 hK3 hHeld hKd hNd Y2d Y3d Y4d hRd
        have c3 := fun i => blk_cell X3.out i
        have c4 := fun i => blk_cell X4.out i
        simp only [ndCs, tkCs] at c3 c4
        refine Or.inl ⟨_, rfl, hK _ _ ⟨(c4 1).trans rfl, (c4 2).trans rfl, (c3 0).trans rfl, (c3 1).trans rfl, (c3 2).trans rfl, (c3 3).trans rfl⟩ (fun hHeld => ?_)⟩
        clear hK K
        unfold ndV
        refine norm_ (by (simp only [Act.put, List.setIfInBounds_toArray, List.set_cons_zero, List.set_cons_succ, i64_w, i32_w]; rfl)) ?_
        refine rone (i := 5) (N := some 20) rfl rfl (by kernel_rfl) (by decide) (fun K hK => ?_)
        rw [if_pos (by rfl)]
        unfold Oper.wp
        go_simp
        have V2 := Aside0.mk (blk_alloc X2.out (.cells #[.int .i64 n.f0, .string n.f1, .slice A1 n.f2.length c1, .int .i64 n.f3, .int .i64 m.f0, .string m.f1, .slice B m.f2.length d0, .int .i64 m.f3] 58))
        have V3 := Aside0.mk (blk_alloc X3.out (.cells #[.int .i64 n.f0, .string n.f1, .slice A1 n.f2.length c1, .int .i64 n.f3, .int .i64 m.f0, .string m.f1, .slice B m.f2.length d0, .int .i64 m.f3] 58))
        have V4 := Aside0.mk (blk_alloc X4.out (.cells #[.int .i64 n.f0, .string n.f1, .slice A1 n.f2.length c1, .int .i64 n.f3, .int .i64 m.f0, .string m.f1, .slice B m.f2.length d0, .int .i64 m.f3] 58))
        have hR4 := Aside0.mk (hR3'.out.alloc (.cells #[.int .i64 n.f0, .string n.f1, .slice A1 n.f2.length c1, .int .i64 n.f3, .int .i64 m.f0, .string m.f1, .slice B m.f2.length d0, .int .i64 m.f3] 58))
        have hKw4 := Aside0.mk (hKw3.out.alloc (.cells #[.int .i64 n.f0, .string n.f1, .slice A1 n.f2.length c1, .int .i64 n.f3, .int .i64 m.f0, .string m.f1, .slice B m.f2.length d0, .int .i64 m.f3] 58))
        have hO4 : Aside0 (NdS (fun k => k ≤ w.heap.size ∨ k = w1.heap.size) (w3.alloc (.cells #[.int .i64 n.f0, .string n.f1, .slice A1 n.f2.length c1, .int .i64 n.f3, .int .i64 m.f0, .string m.f1, .slice B m.f2.length d0, .int .i64 m.f3] 58)) ⟨8, t.f1, [n, m], t.f2⟩ (some ⟨w3.heap.size, 0, none⟩) 2) :=
          ⟨⟨Nat.le_refl 2, fun W k => kids2_new hN3.out (hM'.out.kept (T := fun _ => False) (Kept.refl _ _) (fun _ _ q => q.elim) (fun j _ q => by have q' : j ≤ w.heap.size ∨ j = w1.heap.size := q; show j < wd.heap.size; omega)) (by omega) k⟩⟩
        generalize w3.alloc (.cells #[.int .i64 n.f0, .string n.f1, .slice A1 n.f2.length c1, .int .i64 n.f3, .int .i64 m.f0, .string m.f1, .slice B m.f2.length d0, .int .i64 m.f3] 58) = w4 at V2 V3 V4 hR4 hKw4 hO4 ⊢
        clear X2 X3 X4 hR3' hKw3 c3 c4 hM' hN3 hHeld
        have c3 := fun i => blk_cell V3.out i
        have c4 := fun i => blk_cell V4.out i
        have c2 := fun i => blk_cell V2.out i
        have f2 := fun i => blk_frozen V2.out i
        simp only [ndCs, tkCs] at c3 c4
        refine hK _ _ ⟨(c4 1).trans rfl, (c4 2).trans rfl, (c3 0).trans rfl, (c3 1).trans rfl, (c3 2).trans rfl, (c3 3).trans rfl⟩ (fun hHeld => ?_)
        clear hK K
        ((refine rpure (i := 8) (N := some 23) (v := ?_) (a' := ?_) rfl rfl (by kernel_rfl) (fun _ _ _ h => h) (Or.inl ⟨by rfl, ?_⟩) ?_ ?_); rotate_left; (· intro w'; go_simp; with_reducible rfl); rotate_left; (· (simp only [Act.put, List.setIfInBounds_toArray, List.set_cons_zero, List.set_cons_succ, i64_w, i32_w]; rfl)))
        refine rlast (i := 9) (N := none) rfl rfl (by kernel_rfl) (by decide) (fun K hK => ?_)
        rw [if_pos (by rfl)]
        unfold Oper.wp
        go_simp
        refine hK _ _ (done_ (by kernel_rfl) ?_)
        clear hK K hHeld
        go_wp2_with (fail)
        ((try simp only [Exit.inBlock, Exit.then]); refine bodyPost_ret (by simp [results, Tryd.results76, go_sem, *]; try rfl) rfl ?_)
        have hKo := hKw4.out
        have hRo := hR4.out
        exact post_set (b := w.heap.size) (n := ⟨8, t.f1, [n, m], t.f2⟩) hO4.out hl3' hRo hKo hg hT (Nat.le_refl _) (Or.inl (Nat.le_refl _)) (fun j q => Or.inl (by omega))
end Go.Proofs.YtfgogfdbjbnlbaaDoor.PExpr
end
section
namespace Go.Proofs.YtfgogfdbjbnlbaaDoor.PExpr
open Go.RowKit Go.Proofs.YtfgogfdbjbnlbaaDoorW.PrintWords Go.Proofs.YtfgogfdbjbnlbaaDoorW.PrintLast Go.Proofs.YtfgogfdbjbnlbaaDoorW.PrintMore
set_option linter.unusedVariables false
set_option linter.unusedSimpArgs false
def ZoneInv (part : List Tk → Option Res) (R : Res) (g T : Nat) (d : Int) (w : World) (b6 b7 : Nat) (kq : Nat) (v8 v9 : Value) (w' : World) : Prop :=
  ∃ n A c t r b8, v8 = .pointer (some ⟨b8, 0, none⟩) ∧ v9 = .bool (isIt [sAt] t) ∧ zoneL part kq n (t :: r) = some R ∧ w'.heap[b7]? = some (.cells (ndCs n A c) 58 (0, 0)) ∧ w'.heap[b8]? = some (.cells (tkCs t) 87 (0, 0)) ∧
    w'.heap[b6]? = some (.cells zeroNd 58 (0, 0)) ∧ NdS (fun k => k ≤ b6 ∨ k = b7) w' n A c ∧ Rd g T w' (if isIt [sAt] t = true then r else t :: r) d ∧ Kept (fun k => k = g) w w' ∧ w.heap.size ≤ b8 ∧ b7 ≠ b8 ∧ b6 ≠ b8
theorem zone_rest {part : List Tk → Option Res} {k : Nat} {n : Nd} {t : Tk} {r : List Tk} {R : Res} (h : zoneL part k n (t :: r) = some R) (hi : isIt [sAt] t = true) : r ≠ [] := by
  cases k with
  | zero => cases h
  | succ k =>
    rw [zoneL, if_pos hi] at h
    intro hr
    subst hr
    cases h
set_option maxHeartbeats 1000000 in
set_option maxRecDepth 100000 in
theorem zone_calls (g T : Nat) (d : Int) (part : List Tk → Option Res) (hp : PartC g T d part 86) (k : Nat) (l : List Tk) (R : Res) (w : World) (hl : l ≠ []) (hR : Rd g T w l d) (h : zoneP part k l = some R) :
    Calls Tryd.prog 85 #[.pointer (some ⟨g, 0, none⟩)] w (Post g T d w R) := by
  have hg := hR.lt
  have hT := hR.Tlt hl
  have hg1 : ∀ k, g < w.heap.size + k := fun k => by omega
  have HP := Aside0.mk hp
  clear hp
  unfold zoneP at h
  obtain ⟨r1, hr1, h⟩ := Option.bind_eq_some_iff.mp h
  have hc1 := Aside0.mk (HP.out (w.alloc (.cells zeroNd 58)) l r1 hl (hR.alloc _) hr1)
  cases r1 with
  | bad why pos =>
    obtain rfl := Option.some.inj (show some (Res.bad why pos) = some R from h)
    go_enter Tryd.func85, Tryd.ntmps85
    go_wp2_with (go_at_call 86; go_loud (with_reducible refine hc1.out.mono ?_; intro e w1 hq; obtain ⟨rfl, hK1⟩ := Post.bad_ hq))
    exact ⟨rfl, rfl, Kept.trans (by (repeat' (first | (with_reducible exact Kept.refl _ _) | (with_reducible assumption) | (with_reducible apply Kept.alloc) | (with_reducible apply Kept.drew) | (with_reducible apply Kept.drewN) | (with_reducible refine Kept.setCell ?_ _ _ _ ?_) | (with_reducible exact Or.inl rfl) | (left; assumption) | (right; simp; done) | (right; omega)))) hK1 (fun _ _ h => h)⟩
  | ok n l1 =>
    replace h : zoneL part k n l1 = some R := h
    have H := Aside0.mk h
    clear h
    go_enter Tryd.func85, Tryd.ntmps85
    go_wp2_with (go_at_call 86; go_loud (with_reducible refine hc1.out.mono ?_; intro e w1 hq; obtain ⟨A1, c1, rfl, hN1, hl1, hR1, hK1⟩ := Post.ok_ hq; clear hq; unfold ndV; have hKw := Kept.trans (S := fun k => k = g) (a := w) (by (repeat' (first | (with_reducible exact Kept.refl _ _) | (with_reducible assumption) | (with_reducible apply Kept.alloc) | (with_reducible apply Kept.drew) | (with_reducible apply Kept.drewN) | (with_reducible refine Kept.setCell ?_ _ _ _ ?_) | (with_reducible exact Or.inl rfl) | (left; assumption) | (right; simp; done) | (right; omega)))) hK1 (fun _ _ h => h)))
    cases l1 with
    | nil => exact absurd rfl hl1
    | cons t1 r1 =>
      have hr1' : isIt [sAt] t1 = true → r1 ≠ [] := fun q => zone_rest H.out q
      have hK := Aside0.mk hK1
      have hKW := Aside0.mk hKw
      have hN := Aside0.mk hN1
      have hRd := Aside0.mk hR1
      clear hK1 hKw hN1 hR1 hl1
      have hb6 := Aside0.mk (hK.out.blk (heap_alloc_new w _) (by omega))
      have hlt1 : w.heap.size < w1.heap.size := by have := hK.out.size; simp at this; omega
      have hgl : g < w1.heap.size := by omega
      have hS1 := strs_new (w1.alloc (.cells (ndCs n A1 c1) 58)) [sAt] #[.string sAt] rfl (by decide)
      simp only [World.size_alloc] at hS1
      refine (is_calls g T _ t1 r1 d _ _ [sAt] ((hRd.out.alloc _).alloc _) hS1 (by decide) (by decide) hr1').mono ?_
      rintro e w2 ⟨rfl, hR2, hK2⟩
      have hR2' := Aside0.mk hR2
      have hK2' := Aside0.mk hK2
      have hKw2 := Aside0.mk (Kept.trans (S := fun k => k = g) (a := w) ((hKW.out.alloc _).alloc _) hK2 (fun _ _ h => h))
      have hlt2 : w1.heap.size < w2.heap.size := by have := hK2.size; simp at this; omega
      clear hR2 hK2
      unfold tokV
      go_wp2_with (fail)
      go_loopg [4, 5] k (fun kq v8 v9 w' => Aside0 (ZoneInv part R g T d w w.heap.size w1.heap.size kq v8 v9 w'))
      case atStart =>
        refine ⟨n, A1, c1, t1, r1, w2.heap.size, rfl, rfl, H.out, ?_, ?_, ?_, ?_, ?_, ?_, ?_, ?_, ?_⟩
        · exact blk_alloc (hK2'.out.blk (blk_alloc (heap_alloc_new w1 _) _) (by omega)) _
        · exact heap_alloc_new w2 _
        · exact blk_alloc (hK2'.out.blk (blk_alloc (blk_alloc hb6.out _) _) (by omega)) _
        · exact hN.out.kept (T := fun k => k = g) (Kept.trans (S := fun k => k = g) (((Kept.refl _ w1).alloc _).alloc _) (hK2'.out.alloc _) (fun _ _ h => h)) (fun j _ q => by simp; omega) (fun j _ q => by simp; omega)
        · exact hR2'.out.alloc _
        · exact hKw2.out.alloc _
        · omega
        · omega
        · omega
      case round =>
        obtain ⟨n, A0, c0, t, r, b8, rfl, rfl, hrow, hB7, hB8, hB6, hN', hRd', hKw', hle, hne7, hne6⟩ := hrel.out
        clear hb6 hK hKW hN hRd hK2' hKw2 hR2' hc1 H
        have q7 := fun i => blk_cell hB7 i
        have q6 := fun i => blk_cell hB6 i
        have f6 := fun i => blk_frozen hB6 i
        have hB7' := Aside0.mk hB7
        have hB8' := Aside0.mk hB8
        have hB6' := Aside0.mk hB6
        have hN := Aside0.mk hN'
        have hRd := Aside0.mk hRd'
        have hKw := Aside0.mk hKw'
        have hRow := Aside0.mk hrow
        clear hB7 hB8 hB6 hN' hRd' hKw' hrow
        simp only [ndCs, zeroNd] at q7 q6
        cases hi : isIt [sAt] t with
        | false =>
          have hq := hRow.out
          obtain ⟨gk, rfl⟩ : ∃ j, gk = j + 1 := by cases gk with | zero => cases hq | succ j => exact ⟨j, rfl⟩
          rw [zoneL, if_neg (by rw [hi]; simp)] at hq
          obtain rfl := Option.some.inj hq
          have hR' := hRd.out
          rw [hi, if_neg (by simp)] at hR'
          go_wp2_with (fail)
          ((try simp only [Exit.inBlock, Exit.then]); refine bodyPost_ret (by simp [results, Tryd.results85, go_sem, *]; try rfl) rfl ?_)
          have hk := hKw.out
          refine ⟨A0, c0, rfl, ?_, by simp, by (repeat' (first | (with_reducible assumption) | (with_reducible apply Rd.alloc) | (with_reducible apply Rd.drew) | (with_reducible apply Rd.drewN) | (with_reducible refine Rd.setO ?_ _ _ _ (by (first | (simp; done) | (simp; omega) | omega)) (by (first | (simp; done) | (simp; omega) | omega))))), by (repeat' (first | (with_reducible exact Kept.refl _ _) | (with_reducible assumption) | (with_reducible apply Kept.alloc) | (with_reducible apply Kept.drew) | (with_reducible apply Kept.drewN) | (with_reducible refine Kept.setCell ?_ _ _ _ ?_) | (with_reducible exact Or.inl rfl) | (left; assumption) | (right; simp; done) | (right; omega)))⟩
          exact hN.out.kept (T := fun k => k = w.heap.size) (by (repeat' (first | (with_reducible exact Kept.refl _ _) | (with_reducible assumption) | (with_reducible apply Kept.alloc) | (with_reducible apply Kept.drew) | (with_reducible apply Kept.drewN) | (with_reducible refine Kept.setCell ?_ _ _ _ ?_) | (with_reducible exact Or.inl rfl) | (left; assumption) | (right; simp; done) | (right; omega)))) (fun j _ q => by have q' : j = w.heap.size := q; exact Or.inl (by omega)) (fun j _ q => by have q' : j < w.heap.size := q; exact Or.inl (by omega))
        | true =>
          have hr0 := zone_rest hRow.out hi
          have hq := hRow.out
          obtain ⟨gk, rfl⟩ : ∃ j, gk = j + 1 := by cases gk with | zero => cases hq | succ j => exact ⟨j, rfl⟩
          rw [zoneL, if_pos hi, if_neg (by simpa using hr0)] at hq
          have hR' := hRd.out
          rw [hi, if_pos rfl] at hR'
          have hR'' := Aside0.mk hR'
          clear hR'
          cases r with
          | nil => exact absurd rfl hr0
          | cons u r2 =>
          replace hq : (if isIt [sTime] u = true then (if r2.isEmpty = true then none else wantP sZone r2 fun l => (part l).bind fun m => m.then fun m l => zoneL part gk ⟨8, sZoned, [n, m], t.f2⟩ l) else some (.bad 30 u.f2)) = some R := hq
          go_wp2_with (fail)
          cases hu : isIt [sTime] u with
          | false =>
            rw [if_neg (by rw [hu]; simp)] at hq
            obtain rfl := Option.some.inj hq
            refine (want_no g T _ u r2 d sTime hR''.out hu).mono ?_
            rintro e w3 ⟨he, hK3⟩
            unfold Thrown at he
            subst he
            exact ⟨rfl, rfl, Kept.trans hKw.out hK3 (fun _ _ h => h)⟩
          | true =>
            rw [if_pos hu] at hq
            have hr2 : r2 ≠ [] := by
              intro q
              subst q
              cases hq
            rw [if_neg (by simpa using hr2)] at hq
            cases r2 with
            | nil => exact absurd rfl hr2
            | cons v r3 =>
            replace hq : (if isIt [sZone] v = true then (if r3.isEmpty = true then none else (part r3).bind fun m => m.then fun m l => zoneL part gk ⟨8, sZoned, [n, m], t.f2⟩ l) else some (.bad 30 v.f2)) = some R := hq
            refine (want_yes g T _ u (v :: r3) d sTime hR''.out hu (by simp)).mono ?_
            rintro e w3 ⟨rfl, hR3, hK3⟩
            have hs3 := hK3.size
            have hlr : w1.heap.size < wr.heap.size := (Array.getElem?_eq_some_iff.1 hB7'.out).1
            have hl8 : b8 < wr.heap.size := (Array.getElem?_eq_some_iff.1 hB8'.out).1
            have hR3' := Aside0.mk hR3
            have hK3' := Aside0.mk hK3
            clear hR3 hK3
            go_wp2_with (fail)
            cases hv : isIt [sZone] v with
            | false =>
              rw [if_neg (by rw [hv]; simp)] at hq
              obtain rfl := Option.some.inj hq
              refine (want_no g T _ v r3 d sZone hR3'.out hv).mono ?_
              rintro e w4 ⟨he, hK4⟩
              unfold Thrown at he
              subst he
              exact ⟨rfl, rfl, Kept.trans (Kept.trans hKw.out hK3'.out (fun _ _ h => h)) hK4 (fun _ _ h => h)⟩
            | true =>
              rw [if_pos hv] at hq
              have hr3 : r3 ≠ [] := by
                intro q
                subst q
                cases hq
              rw [if_neg (by simpa using hr3)] at hq
              obtain ⟨r4, hr4, hq⟩ := Option.bind_eq_some_iff.mp hq
              refine (want_yes g T _ v r3 d sZone hR3'.out hv hr3).mono ?_
              rintro e w4 ⟨rfl, hR4, hK4⟩
              have hs4 := hK4.size
              have hK34 := Kept.trans hK3'.out hK4 (fun _ _ h => h)
              have Y7 := Aside0.mk (hK34.blk hB7'.out (by omega))
              have Y8 := Aside0.mk (hK34.blk hB8'.out (by omega))
              have Y6 := Aside0.mk (hK34.blk hB6'.out (by omega))
              have hN4 := Aside0.mk (hN.out.kept (S' := fun k => k ≤ w.heap.size ∨ k = w1.heap.size) hK34 (fun j _ q => by have q' : j = g := q; exact Or.inl (by omega)) (fun j _ q => q))
              have hKw4 := Aside0.mk (Kept.trans hKw.out hK34 (fun _ _ h => h))
              have hR4' := Aside0.mk hR4
              have hlr4 : w1.heap.size < w4.heap.size := by omega
              have hl84 : b8 < w4.heap.size := by omega
              have hRow4 := Aside0.mk hq
              clear hR4 hK4 hK34 hK3' hR3' hB7' hB8' hB6' hN hKw hRd hR'' q7 q6 f6 hq hRow
              go_wp2_with (fail)
              have c7 := fun i => blk_cell Y7.out i
              have c8 := fun i => blk_cell Y8.out i
              simp only [ndCs, tkCs] at c7 c8
              refine start_ (n := 8) (S := fun w' => w'.cell? ⟨b8, 2, none⟩ = some (.int .i64 t.f2) ∧ w'.cell? ⟨w1.heap.size, 0, none⟩ = some (.int .i64 n.f0) ∧ w'.cell? ⟨w1.heap.size, 1, none⟩ = some (.string n.f1) ∧ w'.cell? ⟨w1.heap.size, 2, none⟩ = some (.slice A0 n.f2.length c0) ∧ w'.cell? ⟨w1.heap.size, 3, none⟩ = some (.int .i64 n.f3))
                (ds := [7]) #[false, false, false, false, false, false, false, false] (by kernel_rfl) rfl rfl ⟨(c8 2).trans rfl, (c7 0).trans rfl, (c7 1).trans rfl, (c7 2).trans rfl, (c7 3).trans rfl⟩ (fun hHeld => ?_)
              ((refine rtake (i := 0) (N := some 25) (v := ?_) (a' := ?_) rfl rfl (by kernel_rfl) (fun _ _ _ h => h) (Or.inl ⟨by rfl, ?_⟩) hHeld ?_ ?_); rotate_left; (· rintro w' ⟨s1, s2, s3, s4, s5⟩; go_simp; with_reducible rfl); rotate_left; (· (simp only [Act.put, List.setIfInBounds_toArray, List.set_cons_zero, List.set_cons_succ, i64_w, i32_w]; rfl)))
              ((refine rpure (i := 1) (N := some 26) (v := ?_) (a' := ?_) rfl rfl (by kernel_rfl) (fun _ _ _ h => h) (Or.inl ⟨by rfl, ?_⟩) ?_ ?_); rotate_left; (· intro w'; go_simp; with_reducible rfl); rotate_left; (· (simp only [Act.put, List.setIfInBounds_toArray, List.set_cons_zero, List.set_cons_succ, i64_w, i32_w]; rfl)))
              ((refine rpure (i := 4) (N := some 29) (v := ?_) (a' := ?_) rfl rfl (by kernel_rfl) (fun _ _ _ h => h) (Or.inl ⟨by rfl, ?_⟩) ?_ ?_); rotate_left; (· intro w'; go_simp; with_reducible rfl); rotate_left; (· (simp only [Act.put, List.setIfInBounds_toArray, List.set_cons_zero, List.set_cons_succ, i64_w, i32_w]; rfl)))
              ((refine rtake (i := 5) (N := some 30) (v := ?_) (a' := ?_) rfl rfl (by kernel_rfl) (fun _ _ _ h => h) (Or.inl ⟨by rfl, ?_⟩) hHeld ?_ ?_); rotate_left; (· rintro w' ⟨s1, s2, s3, s4, s5⟩; go_simp; with_reducible rfl); rotate_left; (· (simp only [Act.put, List.setIfInBounds_toArray, List.set_cons_zero, List.set_cons_succ, i64_w, i32_w]; rfl)))
              refine rone (i := 2) (N := some 27) rfl rfl (by kernel_rfl) (by decide) (fun K hK => ?_)
              have hc4 := HP.out w4.drew r3 r4 hr3 hR4'.out.drew hr4
              refine rcall 86 #[.pointer (some ⟨g, 0, none⟩)] (by rfl) rfl (by go_simp) ?_
              cases r4 with
              | bad why pos =>
                obtain rfl := Option.some.inj (show some (Res.bad why pos) = some R from hRow4.out)
                refine hc4.mono ?_
                intro e w5 hp
                obtain ⟨rfl, hK5⟩ := Post.bad_ hp
                refine Or.inr ⟨_, rfl, rfl, rfl, ?_⟩
                exact Kept.trans hKw4.out.drew hK5 (fun _ _ h => h)
              | ok m l3 =>
                have hRow5 := Aside0.mk (show zoneL part gk ⟨8, sZoned, [n, m], t.f2⟩ l3 = some R from hRow4.out)
                refine hc4.mono ?_
                intro e w5 hp
                obtain ⟨B, d0, rfl, hM, hl3, hR5, hK5⟩ := Post.ok_ hp
                clear hp hc4 hRow4
                have hs5 := hK5.size
                rw [show w4.drew.heap.size = w4.heap.size from rfl] at hs5
                have Z7 := Aside0.mk (hK5.blk (show w4.drew.heap[w1.heap.size]? = _ from Y7.out) (by omega))
                have Z8 := Aside0.mk (hK5.blk (show w4.drew.heap[b8]? = _ from Y8.out) (by omega))
                have Z6 := Aside0.mk (hK5.blk (show w4.drew.heap[w.heap.size]? = _ from Y6.out) (by omega))
                have hKw5 := Aside0.mk (Kept.trans hKw4.out.drew hK5 (fun _ _ h => h))
                have hM' := Aside0.mk hM
                have hR5' := Aside0.mk hR5
                have hN5 := Aside0.mk (hN4.out.kept (S' := fun k => k ≤ w.heap.size ∨ k = w1.heap.size) (Kept.trans (S := fun k => k = g) ((Kept.refl _ w4).drew) hK5 (fun _ _ h => h)) (fun j _ q => by have q' : j = g := q; exact Or.inl (by omega)) (fun j _ q => q))
                clear hM hR5 hK5 hHeld Y7 Y8 Y6 hN4 hKw4 hR4' c7 c8
                have c7 := fun i => blk_cell Z7.out i
                have f7 := fun i => blk_frozen Z7.out i
                have c8 := fun i => blk_cell Z8.out i
                simp only [ndCs, tkCs] at c7 c8
                refine Or.inl ⟨_, rfl, hK _ _ ⟨(c8 2).trans rfl, (c7 0).trans rfl, (c7 1).trans rfl, (c7 2).trans rfl, (c7 3).trans rfl⟩ (fun hHeld => ?_)⟩
                clear hK K
                unfold ndV
                refine norm_ (by (simp only [Act.put, List.setIfInBounds_toArray, List.set_cons_zero, List.set_cons_succ, i64_w, i32_w]; rfl)) ?_
                refine rone (i := 3) (N := some 28) rfl rfl (by kernel_rfl) (by decide) (fun K hK => ?_)
                rw [if_pos (by rfl)]
                unfold Oper.wp
                go_simp
                have Y7 := Aside0.mk (blk_alloc Z7.out (.cells #[.int .i64 n.f0, .string n.f1, .slice A0 n.f2.length c0, .int .i64 n.f3, .int .i64 m.f0, .string m.f1, .slice B m.f2.length d0, .int .i64 m.f3] 58))
                have Y8 := Aside0.mk (blk_alloc Z8.out (.cells #[.int .i64 n.f0, .string n.f1, .slice A0 n.f2.length c0, .int .i64 n.f3, .int .i64 m.f0, .string m.f1, .slice B m.f2.length d0, .int .i64 m.f3] 58))
                have Y6 := Aside0.mk (blk_alloc Z6.out (.cells #[.int .i64 n.f0, .string n.f1, .slice A0 n.f2.length c0, .int .i64 n.f3, .int .i64 m.f0, .string m.f1, .slice B m.f2.length d0, .int .i64 m.f3] 58))
                have hR6 := Aside0.mk (hR5'.out.alloc (.cells #[.int .i64 n.f0, .string n.f1, .slice A0 n.f2.length c0, .int .i64 n.f3, .int .i64 m.f0, .string m.f1, .slice B m.f2.length d0, .int .i64 m.f3] 58))
                have hKw6 := Aside0.mk (hKw5.out.alloc (.cells #[.int .i64 n.f0, .string n.f1, .slice A0 n.f2.length c0, .int .i64 n.f3, .int .i64 m.f0, .string m.f1, .slice B m.f2.length d0, .int .i64 m.f3] 58))
                have hO6 : Aside0 (NdS (fun k => k ≤ w.heap.size ∨ k = w1.heap.size) (w5.alloc (.cells #[.int .i64 n.f0, .string n.f1, .slice A0 n.f2.length c0, .int .i64 n.f3, .int .i64 m.f0, .string m.f1, .slice B m.f2.length d0, .int .i64 m.f3] 58)) ⟨8, sZoned, [n, m], t.f2⟩ (some ⟨w5.heap.size, 0, none⟩) 2) :=
                  ⟨⟨Nat.le_refl 2, fun W k => kids2_new hN5.out (hM'.out.kept (T := fun _ => False) (Kept.refl _ _) (fun _ _ q => q.elim) (fun j _ q => by have q' : j ≤ w.heap.size ∨ j = w1.heap.size := q; show j < w4.heap.size; omega)) (by omega) k⟩⟩
                have hlt6 : w5.heap.size < (w5.alloc (.cells #[.int .i64 n.f0, .string n.f1, .slice A0 n.f2.length c0, .int .i64 n.f3, .int .i64 m.f0, .string m.f1, .slice B m.f2.length d0, .int .i64 m.f3] 58)).heap.size := by simp
                generalize w5.alloc (.cells #[.int .i64 n.f0, .string n.f1, .slice A0 n.f2.length c0, .int .i64 n.f3, .int .i64 m.f0, .string m.f1, .slice B m.f2.length d0, .int .i64 m.f3] 58) = w6 at Y7 Y8 Y6 hR6 hKw6 hO6 hlt6 ⊢
                clear Z7 Z8 Z6 hR5' hKw5 c7 f7 c8 hM' hN5 hHeld
                have c7 := fun i => blk_cell Y7.out i
                have f7 := fun i => blk_frozen Y7.out i
                have c8 := fun i => blk_cell Y8.out i
                simp only [ndCs, tkCs] at c7 c8
                refine hK _ _ ⟨(c8 2).trans rfl, (c7 0).trans rfl, (c7 1).trans rfl, (c7 2).trans rfl, (c7 3).trans rfl⟩ (fun hHeld => ?_)
                clear hK K
                ((refine rpure (i := 6) (N := some 31) (v := ?_) (a' := ?_) rfl rfl (by kernel_rfl) (fun _ _ _ h => h) (Or.inl ⟨by rfl, ?_⟩) ?_ ?_); rotate_left; (· intro w'; go_simp; with_reducible rfl); rotate_left; (· (simp only [Act.put, List.setIfInBounds_toArray, List.set_cons_zero, List.set_cons_succ, i64_w, i32_w]; rfl)))
                refine rlast (i := 7) (N := none) rfl rfl (by kernel_rfl) (by decide) (fun K hK => ?_)
                rw [if_pos (by rfl)]
                unfold Oper.wp
                go_simp
                refine hK _ _ (done_ (by kernel_rfl) ?_)
                clear hK K hHeld
                have X7 := Aside0.mk (show ((((w6.setCell ⟨w1.heap.size, 0, none⟩ (.int .i64 8)).setCell ⟨w1.heap.size, 1, none⟩ (.string sZoned)).setCell ⟨w1.heap.size, 2, none⟩ (.slice (some ⟨w5.heap.size, 0, none⟩) 2 2)).setCell ⟨w1.heap.size, 3, none⟩ (.int .i64 t.f2)).heap[w1.heap.size]? = some (.cells (ndCs ⟨8, sZoned, [n, m], t.f2⟩ (some ⟨w5.heap.size, 0, none⟩) 2) 58 (0, 0)) from blk_set (blk_set (blk_set (blk_set Y7.out 0 _) 1 _) 2 _) 3 _)
                have X8 := Aside0.mk (show ((((w6.setCell ⟨w1.heap.size, 0, none⟩ (.int .i64 8)).setCell ⟨w1.heap.size, 1, none⟩ (.string sZoned)).setCell ⟨w1.heap.size, 2, none⟩ (.slice (some ⟨w5.heap.size, 0, none⟩) 2 2)).setCell ⟨w1.heap.size, 3, none⟩ (.int .i64 t.f2)).heap[b8]? = some (.cells (tkCs t) 87 (0, 0)) from blk_setO (blk_setO (blk_setO (blk_setO Y8.out hne7.symm) hne7.symm) hne7.symm) hne7.symm)
                have X6 := Aside0.mk (show ((((w6.setCell ⟨w1.heap.size, 0, none⟩ (.int .i64 8)).setCell ⟨w1.heap.size, 1, none⟩ (.string sZoned)).setCell ⟨w1.heap.size, 2, none⟩ (.slice (some ⟨w5.heap.size, 0, none⟩) 2 2)).setCell ⟨w1.heap.size, 3, none⟩ (.int .i64 t.f2)).heap[w.heap.size]? = some (.cells zeroNd 58 (0, 0)) from blk_setO (blk_setO (blk_setO (blk_setO Y6.out (by omega)) (by omega)) (by omega)) (by omega))
                have hR6o := hR6.out
                have hKw6o := hKw6.out
                have hR7 := Aside0.mk (show Rd g T ((((w6.setCell ⟨w1.heap.size, 0, none⟩ (.int .i64 8)).setCell ⟨w1.heap.size, 1, none⟩ (.string sZoned)).setCell ⟨w1.heap.size, 2, none⟩ (.slice (some ⟨w5.heap.size, 0, none⟩) 2 2)).setCell ⟨w1.heap.size, 3, none⟩ (.int .i64 t.f2)) l3 d from by (repeat' (first | (with_reducible assumption) | (with_reducible apply Rd.alloc) | (with_reducible apply Rd.drew) | (with_reducible apply Rd.drewN) | (with_reducible refine Rd.setO ?_ _ _ _ (by (first | (simp; done) | (simp; omega) | omega)) (by (first | (simp; done) | (simp; omega) | omega))))))
                have hKw7 := Aside0.mk (show Kept (fun k => k = g) w ((((w6.setCell ⟨w1.heap.size, 0, none⟩ (.int .i64 8)).setCell ⟨w1.heap.size, 1, none⟩ (.string sZoned)).setCell ⟨w1.heap.size, 2, none⟩ (.slice (some ⟨w5.heap.size, 0, none⟩) 2 2)).setCell ⟨w1.heap.size, 3, none⟩ (.int .i64 t.f2)) from by (repeat' (first | (with_reducible exact Kept.refl _ _) | (with_reducible assumption) | (with_reducible apply Kept.alloc) | (with_reducible apply Kept.drew) | (with_reducible apply Kept.drewN) | (with_reducible refine Kept.setCell ?_ _ _ _ ?_) | (with_reducible exact Or.inl rfl) | (left; assumption) | (right; simp; done) | (right; omega))))
                have hO7 := Aside0.mk (hO6.out.kept (S' := fun k => k ≤ w.heap.size ∨ k = w1.heap.size) (T := fun k => k = w1.heap.size) (show Kept _ w6 ((((w6.setCell ⟨w1.heap.size, 0, none⟩ (.int .i64 8)).setCell ⟨w1.heap.size, 1, none⟩ (.string sZoned)).setCell ⟨w1.heap.size, 2, none⟩ (.slice (some ⟨w5.heap.size, 0, none⟩) 2 2)).setCell ⟨w1.heap.size, 3, none⟩ (.int .i64 t.f2)) from by (repeat' (first | (with_reducible exact Kept.refl _ _) | (with_reducible assumption) | (with_reducible apply Kept.alloc) | (with_reducible apply Kept.drew) | (with_reducible apply Kept.drewN) | (with_reducible refine Kept.setCell ?_ _ _ _ ?_) | (with_reducible exact Or.inl rfl) | (left; assumption) | (right; simp; done) | (right; omega)))) (fun j _ q => Or.inr q) (fun j _ q => q))
                have hlt7 : w5.heap.size < ((((w6.setCell ⟨w1.heap.size, 0, none⟩ (.int .i64 8)).setCell ⟨w1.heap.size, 1, none⟩ (.string sZoned)).setCell ⟨w1.heap.size, 2, none⟩ (.slice (some ⟨w5.heap.size, 0, none⟩) 2 2)).setCell ⟨w1.heap.size, 3, none⟩ (.int .i64 t.f2)).heap.size := by simpa using hlt6
                have ez : (Value.string ⟨#[97, 116, 32, 116, 105, 109, 101, 32, 122, 111, 110, 101]⟩) = Value.string sZoned := rfl
                rw [ez]
                generalize ((((w6.setCell ⟨w1.heap.size, 0, none⟩ (.int .i64 8)).setCell ⟨w1.heap.size, 1, none⟩ (.string sZoned)).setCell ⟨w1.heap.size, 2, none⟩ (.slice (some ⟨w5.heap.size, 0, none⟩) 2 2)).setCell ⟨w1.heap.size, 3, none⟩ (.int .i64 t.f2)) = w7 at X7 X8 X6 hR7 hKw7 hO7 hlt7 ⊢
                clear Y7 Y8 Y6 hR6 hKw6 hO6 hlt6 hR6o hKw6o c7 f7 c8 ez
                have c8 := fun i => blk_cell X8.out i
                simp only [tkCs] at c8
                go_wp2_with (fail)
                cases l3 with
                | nil => exact absurd hRow5.out (by cases gk <;> simp [zoneL])
                | cons t5 r5 =>
                  have hr5' : isIt [sAt] t5 = true → r5 ≠ [] := fun q => zone_rest hRow5.out q
                  have hS5 := strs_new (w7.alloc (.cells (tkCs t) 87)) [sAt] #[.string sAt] rfl (by decide)
                  simp only [World.size_alloc] at hS5
                  refine (is_calls g T _ t5 r5 d _ _ [sAt] ((hR7.out.alloc _).alloc _) hS5 (by decide) (by decide) hr5').mono ?_
                  rintro e w8 ⟨rfl, hR8, hK8⟩
                  have hs8 := hK8.size
                  have X8n := Aside0.mk (hK8.blk (blk_alloc (heap_alloc_new w7 _) _) (by omega))
                  have X7n := Aside0.mk (hK8.blk (blk_alloc (blk_alloc X7.out _) _) (by omega))
                  have X6n := Aside0.mk (hK8.blk (blk_alloc (blk_alloc X6.out _) _) (by omega))
                  have hR8' := Aside0.mk hR8
                  have hKw8 := Aside0.mk (Kept.trans (S := fun k => k = g) (a := w) ((hKw7.out.alloc _).alloc _) hK8 (fun _ _ h => h))
                  have hK78 := Aside0.mk (Kept.trans (S := fun k => k = g) (((Kept.refl _ w7).alloc _).alloc _) hK8 (fun _ _ h => h))
                  simp at hs8
                  have hKw7sz := hKw7.out.size
                  clear hR8 hK8 X7 X8 X6 hR7 hKw7 c8
                  unfold tokV
                  have c8 := fun i => blk_cell X8n.out i
                  have f8 := fun i => blk_frozen X8n.out i
                  go_wp2_with (fail)
                  go_roundg gk
                  case measure => omega
                  case rel =>
                    have hR8o := hR8'.out
                    have hKw8o := hKw8.out
                    refine ⟨⟨⟨8, sZoned, [n, m], t.f2⟩, some ⟨w5.heap.size, 0, none⟩, 2, t5, r5, w7.heap.size, rfl, rfl, hRow5.out, ?_, ?_, ?_, ?_, by (repeat' (first | (with_reducible assumption) | (with_reducible apply Rd.alloc) | (with_reducible apply Rd.drew) | (with_reducible apply Rd.drewN) | (with_reducible refine Rd.setO ?_ _ _ _ (by (first | (simp; done) | (simp; omega) | omega)) (by (first | (simp; done) | (simp; omega) | omega))))), by (repeat' (first | (with_reducible exact Kept.refl _ _) | (with_reducible assumption) | (with_reducible apply Kept.alloc) | (with_reducible apply Kept.drew) | (with_reducible apply Kept.drewN) | (with_reducible refine Kept.setCell ?_ _ _ _ ?_) | (with_reducible exact Or.inl rfl) | (left; assumption) | (right; simp; done) | (right; omega))), by omega, by omega, by omega⟩⟩
                    · exact blk_setO (blk_setO (blk_setO X7n.out (by omega)) (by omega)) (by omega)
                    · exact blk_set (blk_set (blk_set X8n.out 0 _) 1 _) 2 _
                    · exact blk_setO (blk_setO (blk_setO X6n.out (by omega)) (by omega)) (by omega)
                    · have hK78o := hK78.out
                      exact hO7.out.kept (T := fun k => k = g) (by (repeat' (first | (with_reducible exact Kept.refl _ _) | (with_reducible assumption) | (with_reducible apply Kept.alloc) | (with_reducible apply Kept.drew) | (with_reducible apply Kept.drewN) | (with_reducible refine Kept.setCell ?_ _ _ _ ?_) | (with_reducible exact Or.inl rfl) | (left; assumption) | (right; simp; done) | (right; omega)))) (fun j _ q => by have q' : j = g := q; exact Or.inl (by omega)) (fun j _ q => q)
end Go.Proofs.YtfgogfdbjbnlbaaDoor.PExpr
end
section
namespace Go.Proofs.YtfgogfdbjbnlbaaDoor.PExpr
open Go.RowKit Go.Proofs.YtfgogfdbjbnlbaaDoorW.PrintWords Go.Proofs.YtfgogfdbjbnlbaaDoorW.PrintLast Go.Proofs.YtfgogfdbjbnlbaaDoorW.PrintMore
set_option linter.unusedVariables false
set_option linter.unusedSimpArgs false
def CastInv (R : Res) (g T : Nat) (d : Int) (w : World) (b6 b7 : Nat) (kq : Nat) (v8 v9 : Value) (w' : World) : Prop :=
  ∃ n A c t r b8, v8 = .pointer (some ⟨b8, 0, none⟩) ∧ v9 = .bool (isIt [sCast] t) ∧ castL kq n (t :: r) = some R ∧ w'.heap[b7]? = some (.cells (ndCs n A c) 58 (0, 0)) ∧ w'.heap[b8]? = some (.cells (tkCs t) 87 (0, 0)) ∧
    w'.heap[b6]? = some (.cells zeroNd 58 (0, 0)) ∧ NdS (fun k => k ≤ b6 ∨ k = b7) w' n A c ∧ Rd g T w' (if isIt [sCast] t = true then r else t :: r) d ∧ Kept (fun k => k = g) w w' ∧ w.heap.size ≤ b8 ∧ b7 ≠ b8 ∧ b6 ≠ b8
theorem cast_rest {k : Nat} {n : Nd} {t : Tk} {r : List Tk} {R : Res} (h : castL k n (t :: r) = some R) (hi : isIt [sCast] t = true) : r ≠ [] := by
  cases k with
  | zero => cases h
  | succ k =>
    rw [castL, if_pos hi] at h
    intro hr
    subst hr
    cases h
theorem reserved_calls (s : ByteArray) (w : World) : Calls Tryd.prog 89 #[.string s] w fun e w' => e = .returned (.bool (hasB kept8 s)) ∧ Below w.heap.size w w' := by
  obtain ⟨r, h1, h2⟩ := index_from kept8 s (by decide) kept8.length 0 (by decide) 20 (by decide)
  refine expr_reserved.calls 20 s _ w ?_
  unfold expr_reserved.f
  have e : slices_Contains_string_string.f 20 kept8 s = some (hasB kept8 s) := by
    unfold slices_Contains_string_string.f slices_Index_string_string.f
    rw [show (0 : Int) = ((0 : Nat) : Int) from rfl, h1]
    rw [List.drop_zero] at h2
    rw [Option.bind_some]
    congr 1
    rw [Bool.eq_iff_iff]
    simpa using h2
  rw [show ([(⟨#[116, 114, 117, 101]⟩ : ByteArray), (⟨#[102, 97, 108, 115, 101]⟩ : ByteArray), (⟨#[110, 111, 116]⟩ : ByteArray), (⟨#[97, 110, 100]⟩ : ByteArray), (⟨#[111, 114]⟩ : ByteArray), (⟨#[97, 116]⟩ : ByteArray), (⟨#[116, 105, 109, 101]⟩ : ByteArray), (⟨#[122, 111, 110, 101]⟩ : ByteArray)] : List ByteArray) = kept8 from rfl, e]
  rfl
theorem take_calls (g T : Nat) (w : World) (t : Tk) (r : List Tk) (d : Int) (hR : Rd g T w (t :: r) d) (hr : t.f0 ≠ 4 → r ≠ []) :
    Calls Tryd.prog 74 #[.pointer (some ⟨g, 0, none⟩)] w fun e w' => e = .returned (tokV t) ∧ Rd g T w' (if t.f0 = 4 then t :: r else r) d ∧ Kept (fun k => k = g) w w' := by
  by_cases h4 : t.f0 = 4
  · rw [if_pos h4]
    exact take_last g T w t r d hR h4
  · rw [if_neg h4]
    exact take_one g T w t r d hR h4 (hr h4)
set_option maxHeartbeats 1000000 in
set_option maxRecDepth 100000 in
theorem cast_calls (g T : Nat) (d : Int) (part : List Tk → Option Res) (hp : PartC g T d part 88) (k : Nat) (l : List Tk) (R : Res) (w : World) (hl : l ≠ []) (hR : Rd g T w l d) (h : castP part k l = some R) :
    Calls Tryd.prog 86 #[.pointer (some ⟨g, 0, none⟩)] w (Post g T d w R) := by
  have hg := hR.lt
  have hT := hR.Tlt hl
  have hg1 : ∀ k, g < w.heap.size + k := fun k => by omega
  have HP := Aside0.mk hp
  clear hp
  unfold castP at h
  obtain ⟨r1, hr1, h⟩ := Option.bind_eq_some_iff.mp h
  have hc1 := Aside0.mk (HP.out (w.alloc (.cells zeroNd 58)) l r1 hl (hR.alloc _) hr1)
  cases r1 with
  | bad why pos =>
    obtain rfl := Option.some.inj (show some (Res.bad why pos) = some R from h)
    go_enter Tryd.func86, Tryd.ntmps86
    go_wp2_with (go_at_call 88; go_loud (with_reducible refine hc1.out.mono ?_; intro e w1 hq; obtain ⟨rfl, hK1⟩ := Post.bad_ hq))
    exact ⟨rfl, rfl, Kept.trans (by (repeat' (first | (with_reducible exact Kept.refl _ _) | (with_reducible assumption) | (with_reducible apply Kept.alloc) | (with_reducible apply Kept.drew) | (with_reducible apply Kept.drewN) | (with_reducible refine Kept.setCell ?_ _ _ _ ?_) | (with_reducible exact Or.inl rfl) | (left; assumption) | (right; simp; done) | (right; omega)))) hK1 (fun _ _ h => h)⟩
  | ok n l1 =>
    replace h : castL k n l1 = some R := h
    have H := Aside0.mk h
    clear h
    go_enter Tryd.func86, Tryd.ntmps86
    go_wp2_with (go_at_call 88; go_loud (with_reducible refine hc1.out.mono ?_; intro e w1 hq; obtain ⟨A1, c1, rfl, hN1, hl1, hR1, hK1⟩ := Post.ok_ hq; clear hq; unfold ndV; have hKw := Kept.trans (S := fun k => k = g) (a := w) (by (repeat' (first | (with_reducible exact Kept.refl _ _) | (with_reducible assumption) | (with_reducible apply Kept.alloc) | (with_reducible apply Kept.drew) | (with_reducible apply Kept.drewN) | (with_reducible refine Kept.setCell ?_ _ _ _ ?_) | (with_reducible exact Or.inl rfl) | (left; assumption) | (right; simp; done) | (right; omega)))) hK1 (fun _ _ h => h)))
    cases l1 with
    | nil => exact absurd rfl hl1
    | cons t1 r1 =>
      have hr1' : isIt [sCast] t1 = true → r1 ≠ [] := fun q => cast_rest H.out q
      have hK := Aside0.mk hK1
      have hKW := Aside0.mk hKw
      have hN := Aside0.mk hN1
      have hRd := Aside0.mk hR1
      clear hK1 hKw hN1 hR1 hl1
      have hb6 := Aside0.mk (hK.out.blk (heap_alloc_new w _) (by omega))
      have hlt1 : w.heap.size < w1.heap.size := by have := hK.out.size; simp at this; omega
      have hgl : g < w1.heap.size := by omega
      have hS1 := strs_new (w1.alloc (.cells (ndCs n A1 c1) 58)) [sCast] #[.string sCast] rfl (by decide)
      simp only [World.size_alloc] at hS1
      refine (is_calls g T _ t1 r1 d _ _ [sCast] ((hRd.out.alloc _).alloc _) hS1 (by decide) (by decide) hr1').mono ?_
      rintro e w2 ⟨rfl, hR2, hK2⟩
      have hR2' := Aside0.mk hR2
      have hK2' := Aside0.mk hK2
      have hKw2 := Aside0.mk (Kept.trans (S := fun k => k = g) (a := w) ((hKW.out.alloc _).alloc _) hK2 (fun _ _ h => h))
      have hlt2 : w1.heap.size < w2.heap.size := by have := hK2.size; simp at this; omega
      clear hR2 hK2
      unfold tokV
      go_wp2_with (fail)
      go_loopg [4, 5] k (fun kq v8 v9 w' => Aside0 (CastInv R g T d w w.heap.size w1.heap.size kq v8 v9 w'))
      case atStart =>
        refine ⟨n, A1, c1, t1, r1, w2.heap.size, rfl, rfl, H.out, ?_, ?_, ?_, ?_, ?_, ?_, ?_, ?_, ?_⟩
        · exact blk_alloc (hK2'.out.blk (blk_alloc (heap_alloc_new w1 _) _) (by omega)) _
        · exact heap_alloc_new w2 _
        · exact blk_alloc (hK2'.out.blk (blk_alloc (blk_alloc hb6.out _) _) (by omega)) _
        · exact hN.out.kept (T := fun k => k = g) (Kept.trans (S := fun k => k = g) (((Kept.refl _ w1).alloc _).alloc _) (hK2'.out.alloc _) (fun _ _ h => h)) (fun j _ q => by simp; omega) (fun j _ q => by simp; omega)
        · exact hR2'.out.alloc _
        · exact hKw2.out.alloc _
        · omega
        · omega
        · omega
      case round =>
        obtain ⟨n, A0, c0, t, r, b8, rfl, rfl, hrow, hB7, hB8, hB6, hN', hRd', hKw', hle, hne7, hne6⟩ := hrel.out
        clear hb6 hK hKW hN hRd hK2' hKw2 hR2' hc1 H
        have q7 := fun i => blk_cell hB7 i
        have q6 := fun i => blk_cell hB6 i
        have f6 := fun i => blk_frozen hB6 i
        have hB7' := Aside0.mk hB7
        have hB8' := Aside0.mk hB8
        have hB6' := Aside0.mk hB6
        have hN := Aside0.mk hN'
        have hRd := Aside0.mk hRd'
        have hKw := Aside0.mk hKw'
        have hRow := Aside0.mk hrow
        clear hB7 hB8 hB6 hN' hRd' hKw' hrow
        simp only [ndCs, zeroNd] at q7 q6
        cases hi : isIt [sCast] t with
        | false =>
          have hq := hRow.out
          obtain ⟨gk, rfl⟩ : ∃ j, gk = j + 1 := by cases gk with | zero => cases hq | succ j => exact ⟨j, rfl⟩
          rw [castL, if_neg (by rw [hi]; simp)] at hq
          obtain rfl := Option.some.inj hq
          have hR' := hRd.out
          rw [hi, if_neg (by simp)] at hR'
          go_wp2_with (fail)
          ((try simp only [Exit.inBlock, Exit.then]); refine bodyPost_ret (by simp [results, Tryd.results86, go_sem, *]; try rfl) rfl ?_)
          have hk := hKw.out
          refine ⟨A0, c0, rfl, ?_, by simp, by (repeat' (first | (with_reducible assumption) | (with_reducible apply Rd.alloc) | (with_reducible apply Rd.drew) | (with_reducible apply Rd.drewN) | (with_reducible refine Rd.setO ?_ _ _ _ (by (first | (simp; done) | (simp; omega) | omega)) (by (first | (simp; done) | (simp; omega) | omega))))), by (repeat' (first | (with_reducible exact Kept.refl _ _) | (with_reducible assumption) | (with_reducible apply Kept.alloc) | (with_reducible apply Kept.drew) | (with_reducible apply Kept.drewN) | (with_reducible refine Kept.setCell ?_ _ _ _ ?_) | (with_reducible exact Or.inl rfl) | (left; assumption) | (right; simp; done) | (right; omega)))⟩
          exact hN.out.kept (T := fun k => k = w.heap.size) (by (repeat' (first | (with_reducible exact Kept.refl _ _) | (with_reducible assumption) | (with_reducible apply Kept.alloc) | (with_reducible apply Kept.drew) | (with_reducible apply Kept.drewN) | (with_reducible refine Kept.setCell ?_ _ _ _ ?_) | (with_reducible exact Or.inl rfl) | (left; assumption) | (right; simp; done) | (right; omega)))) (fun j _ q => by have q' : j = w.heap.size := q; exact Or.inl (by omega)) (fun j _ q => by have q' : j < w.heap.size := q; exact Or.inl (by omega))
        | true =>
          have hr0 := cast_rest hRow.out hi
          have hq := hRow.out
          obtain ⟨gk, rfl⟩ : ∃ j, gk = j + 1 := by cases gk with | zero => cases hq | succ j => exact ⟨j, rfl⟩
          rw [castL, if_pos hi, if_neg (by simpa using hr0)] at hq
          have hR' := hRd.out
          rw [hi, if_pos rfl] at hR'
          have hR'' := Aside0.mk hR'
          clear hR'
          cases r with
          | nil => exact absurd rfl hr0
          | cons u r2 =>
          have hu4 : u.f0 ≠ 4 → r2 ≠ [] := fun q q2 => by
            subst q2
            simp only [takeP] at hq
            rw [if_neg q] at hq
            cases hq
          have hlr : w1.heap.size < wr.heap.size := (Array.getElem?_eq_some_iff.1 hB7'.out).1
          have hl8 : b8 < wr.heap.size := (Array.getElem?_eq_some_iff.1 hB8'.out).1
          go_wp2_with (fail)
          refine (take_calls g T _ u r2 d hR''.out hu4).mono ?_
          rintro e w3 ⟨rfl, hR3, hK3⟩
          have hs3 := hK3.size
          have Z7 := Aside0.mk (hK3.blk hB7'.out (by omega))
          have Z8 := Aside0.mk (hK3.blk hB8'.out (by omega))
          have Z6 := Aside0.mk (hK3.blk hB6'.out (by omega))
          have hKw3 := Aside0.mk (Kept.trans hKw.out hK3 (fun _ _ h => h))
          have hN3 := Aside0.mk (hN.out.kept (S' := fun k => k ≤ w.heap.size ∨ k = w1.heap.size) hK3 (fun j _ q => by have q' : j = g := q; exact Or.inl (by omega)) (fun j _ q => q))
          have hR3' := Aside0.mk hR3
          clear hR3 hK3 hN hKw hB7' hB8' hB6' hRd q6 q7 f6 hR'' hRow
          unfold tokV
          have c7 := fun i => blk_cell Z7.out i
          have f7 := fun i => blk_frozen Z7.out i
          have c8 := fun i => blk_cell Z8.out i
          simp only [ndCs, tkCs] at c7 c8
          have hlr3 : w1.heap.size < w3.heap.size := by omega
          have hl83 : b8 < w3.heap.size := by omega
          have Hq := Aside0.mk hq
          clear hq
          by_cases h1 : u.f0 = 1
          · have h4 : u.f0 ≠ 4 := by omega
            have hr2 := hu4 h4
            have hh := Hq.out
            simp only [takeP] at hh
            rw [if_neg h4, if_neg (by simpa using hr2)] at hh
            have hR3o := hR3'.out
            rw [if_neg h4] at hR3o
            have hR3n := Aside0.mk hR3o
            clear hR3o Hq hR3'
            have h1t := h1
            cases hk : hasB kept8 u.f1 with
            | true =>
              rw [if_pos (Or.inr hk)] at hh
              obtain rfl := Option.some.inj hh
              clear hh
              go_wp2_with (first | (go_at_call 89; go_loud (refine (reserved_calls _ _).mono ?_; rintro e w4 ⟨rfl, hb⟩; rw [hk]; have hb' := Aside0.mk hb; clear hb; have c6 := fun i => blk_cell (blk_below (heap_alloc_new w3 _) hb'.out) i)) | (go_at_call 42; go_loud (refine (fail_calls _ _ _).mono ?_; rintro e w5 ⟨he, hb5⟩; unfold Thrown at he; subst he)))
              exact ⟨rfl, rfl, Kept.below (Kept.below (hKw3.out.alloc _) hb'.out) hb5⟩
            | false =>
              rw [if_neg (by rw [hk]; simp [h1])] at hh
              have hRow5 := Aside0.mk hh
              clear hh
              go_wp2_with (fail)
              refine (reserved_calls _ _).mono ?_
              rintro e w4 ⟨rfl, hb⟩
              rw [hk]
              have hs4 : w3.heap.size + 1 ≤ w4.heap.size := by simpa using hb.size
              have c6 := fun i => blk_cell (blk_below (heap_alloc_new w3 _) hb) i
              have Y7 := Aside0.mk (blk_below (blk_alloc Z7.out _) hb)
              have Y8 := Aside0.mk (blk_below (blk_alloc Z8.out _) hb)
              have Y6 := Aside0.mk (blk_below (blk_alloc Z6.out _) hb)
              have hR4 := Aside0.mk ((hR3n.out.alloc _).below hb)
              have hKw4 := Aside0.mk ((hKw3.out.alloc _).below hb)
              have hN4 := Aside0.mk (hN3.out.kept (S' := fun k => k ≤ w.heap.size ∨ k = w1.heap.size) (T := fun _ => False) (((Kept.refl _ w3).alloc _).below hb) (fun _ _ q => q.elim) (fun j _ q => q))
              clear c7 f7 c8 Z7 Z8 Z6 hR3n hKw3 hN3 hb
              have c7 := fun i => blk_cell Y7.out i
              have f7 := fun i => blk_frozen Y7.out i
              have c8 := fun i => blk_cell Y8.out i
              have hlr4 : w1.heap.size < w4.heap.size := by omega
              have hl84 : b8 < w4.heap.size := by omega
              have hl64 : w3.heap.size < w4.heap.size := by omega
              simp only [ndCs, tkCs] at c7 c8
              go_wp2_with (fail)
              have X7 := Aside0.mk (blk_alloc (show ((((w4.setCell ⟨w1.heap.size, 0, none⟩ (.int .i64 10)).setCell ⟨w1.heap.size, 1, none⟩ (.string u.f1)).setCell ⟨w1.heap.size, 2, none⟩ (.slice (some ⟨w4.heap.size, 0, none⟩) 1 1)).setCell ⟨w1.heap.size, 3, none⟩ (.int .i64 t.f2)).heap[w1.heap.size]? = some (.cells (ndCs ⟨10, u.f1, [n], t.f2⟩ (some ⟨w4.heap.size, 0, none⟩) 1) 58 (0, 0)) from blk_set (blk_set (blk_set (blk_set Y7.out 0 _) 1 _) 2 _) 3 _) (.cells #[.int .i64 n.f0, .string n.f1, .slice A0 n.f2.length c0, .int .i64 n.f3] 58))
              have X8 := Aside0.mk (blk_alloc (show ((((w4.setCell ⟨w1.heap.size, 0, none⟩ (.int .i64 10)).setCell ⟨w1.heap.size, 1, none⟩ (.string u.f1)).setCell ⟨w1.heap.size, 2, none⟩ (.slice (some ⟨w4.heap.size, 0, none⟩) 1 1)).setCell ⟨w1.heap.size, 3, none⟩ (.int .i64 t.f2)).heap[b8]? = some (.cells (tkCs t) 87 (0, 0)) from blk_setO (blk_setO (blk_setO (blk_setO Y8.out hne7.symm) hne7.symm) hne7.symm) hne7.symm) (.cells #[.int .i64 n.f0, .string n.f1, .slice A0 n.f2.length c0, .int .i64 n.f3] 58))
              have X6 := Aside0.mk (blk_alloc (show ((((w4.setCell ⟨w1.heap.size, 0, none⟩ (.int .i64 10)).setCell ⟨w1.heap.size, 1, none⟩ (.string u.f1)).setCell ⟨w1.heap.size, 2, none⟩ (.slice (some ⟨w4.heap.size, 0, none⟩) 1 1)).setCell ⟨w1.heap.size, 3, none⟩ (.int .i64 t.f2)).heap[w.heap.size]? = some (.cells zeroNd 58 (0, 0)) from blk_setO (blk_setO (blk_setO (blk_setO Y6.out (by omega)) (by omega)) (by omega)) (by omega)) (.cells #[.int .i64 n.f0, .string n.f1, .slice A0 n.f2.length c0, .int .i64 n.f3] 58))
              have hR4o := hR4.out
              have hKw4o := hKw4.out
              have hR5 := Aside0.mk (show Rd g T (((((w4.setCell ⟨w1.heap.size, 0, none⟩ (.int .i64 10)).setCell ⟨w1.heap.size, 1, none⟩ (.string u.f1)).setCell ⟨w1.heap.size, 2, none⟩ (.slice (some ⟨w4.heap.size, 0, none⟩) 1 1)).setCell ⟨w1.heap.size, 3, none⟩ (.int .i64 t.f2)).alloc (.cells #[.int .i64 n.f0, .string n.f1, .slice A0 n.f2.length c0, .int .i64 n.f3] 58)) r2 d from by (repeat' (first | (with_reducible assumption) | (with_reducible apply Rd.alloc) | (with_reducible apply Rd.drew) | (with_reducible apply Rd.drewN) | (with_reducible refine Rd.setO ?_ _ _ _ (by (first | (simp; done) | (simp; omega) | omega)) (by (first | (simp; done) | (simp; omega) | omega))))))
              have hKw5 := Aside0.mk (show Kept (fun k => k = g) w (((((w4.setCell ⟨w1.heap.size, 0, none⟩ (.int .i64 10)).setCell ⟨w1.heap.size, 1, none⟩ (.string u.f1)).setCell ⟨w1.heap.size, 2, none⟩ (.slice (some ⟨w4.heap.size, 0, none⟩) 1 1)).setCell ⟨w1.heap.size, 3, none⟩ (.int .i64 t.f2)).alloc (.cells #[.int .i64 n.f0, .string n.f1, .slice A0 n.f2.length c0, .int .i64 n.f3] 58)) from by (repeat' (first | (with_reducible exact Kept.refl _ _) | (with_reducible assumption) | (with_reducible apply Kept.alloc) | (with_reducible apply Kept.drew) | (with_reducible apply Kept.drewN) | (with_reducible refine Kept.setCell ?_ _ _ _ ?_) | (with_reducible exact Or.inl rfl) | (left; assumption) | (right; simp; done) | (right; omega))))
              have hcs : ((((w4.setCell ⟨w1.heap.size, 0, none⟩ (.int .i64 10)).setCell ⟨w1.heap.size, 1, none⟩ (.string u.f1)).setCell ⟨w1.heap.size, 2, none⟩ (.slice (some ⟨w4.heap.size, 0, none⟩) 1 1)).setCell ⟨w1.heap.size, 3, none⟩ (.int .i64 t.f2)).heap.size = w4.heap.size := by simp
              have hNc := hN4.out.kept (S' := fun k => k ≤ w.heap.size ∨ k = w1.heap.size) (T := fun k => k = w1.heap.size) (show Kept _ w4 ((((w4.setCell ⟨w1.heap.size, 0, none⟩ (.int .i64 10)).setCell ⟨w1.heap.size, 1, none⟩ (.string u.f1)).setCell ⟨w1.heap.size, 2, none⟩ (.slice (some ⟨w4.heap.size, 0, none⟩) 1 1)).setCell ⟨w1.heap.size, 3, none⟩ (.int .i64 t.f2)) from by (repeat' (first | (with_reducible exact Kept.refl _ _) | (with_reducible assumption) | (with_reducible apply Kept.alloc) | (with_reducible apply Kept.drew) | (with_reducible apply Kept.drewN) | (with_reducible refine Kept.setCell ?_ _ _ _ ?_) | (with_reducible exact Or.inl rfl) | (left; assumption) | (right; simp; done) | (right; omega)))) (fun j _ q => Or.inr q) (fun j _ q => q)
              have hO5 : Aside0 (NdS (fun k => k ≤ w.heap.size ∨ k = w1.heap.size) (((((w4.setCell ⟨w1.heap.size, 0, none⟩ (.int .i64 10)).setCell ⟨w1.heap.size, 1, none⟩ (.string u.f1)).setCell ⟨w1.heap.size, 2, none⟩ (.slice (some ⟨w4.heap.size, 0, none⟩) 1 1)).setCell ⟨w1.heap.size, 3, none⟩ (.int .i64 t.f2)).alloc (.cells #[.int .i64 n.f0, .string n.f1, .slice A0 n.f2.length c0, .int .i64 n.f3] 58)) ⟨10, u.f1, [n], t.f2⟩ (some ⟨w4.heap.size, 0, none⟩) 1) := by
                refine ⟨⟨Nat.le_refl 1, fun W k => ?_⟩⟩
                have := kids1_new hNc (W := W) (by rw [hcs]; omega) k
                rw [hcs] at this
                exact this
              have hs5 : (((((w4.setCell ⟨w1.heap.size, 0, none⟩ (.int .i64 10)).setCell ⟨w1.heap.size, 1, none⟩ (.string u.f1)).setCell ⟨w1.heap.size, 2, none⟩ (.slice (some ⟨w4.heap.size, 0, none⟩) 1 1)).setCell ⟨w1.heap.size, 3, none⟩ (.int .i64 t.f2)).alloc (.cells #[.int .i64 n.f0, .string n.f1, .slice A0 n.f2.length c0, .int .i64 n.f3] 58)).heap.size = w4.heap.size + 1 := by simp
              generalize ((((w4.setCell ⟨w1.heap.size, 0, none⟩ (.int .i64 10)).setCell ⟨w1.heap.size, 1, none⟩ (.string u.f1)).setCell ⟨w1.heap.size, 2, none⟩ (.slice (some ⟨w4.heap.size, 0, none⟩) 1 1)).setCell ⟨w1.heap.size, 3, none⟩ (.int .i64 t.f2)).alloc (.cells #[.int .i64 n.f0, .string n.f1, .slice A0 n.f2.length c0, .int .i64 n.f3] 58) = w5 at X7 X8 X6 hR5 hKw5 hO5 hs5 ⊢
              clear Y7 Y8 Y6 hR4 hKw4 hN4 hNc hR4o hKw4o c7 f7 c8 c6 hcs
              cases r2 with
              | nil => exact absurd rfl hr2
              | cons t5 r5 =>
                have hr5' : isIt [sCast] t5 = true → r5 ≠ [] := fun q => cast_rest hRow5.out q
                have hS5 := strs_new (w5.alloc (.cells (tkCs t) 87)) [sCast] #[.string sCast] rfl (by decide)
                simp only [World.size_alloc, hs5] at hS5
                refine (is_calls g T _ t5 r5 d _ _ [sCast] ((hR5.out.alloc _).alloc _) hS5 (by decide) (by decide) hr5').mono ?_
                rintro e w8 ⟨rfl, hR8, hK8⟩
                have hs8 := hK8.size
                have X8n := Aside0.mk (hK8.blk (blk_alloc (heap_alloc_new w5 _) _) (by omega))
                rw [hs5] at X8n
                have X7n := Aside0.mk (hK8.blk (blk_alloc (blk_alloc X7.out _) _) (by omega))
                have X6n := Aside0.mk (hK8.blk (blk_alloc (blk_alloc X6.out _) _) (by omega))
                have hR8' := Aside0.mk hR8
                have hKw8 := Aside0.mk (Kept.trans (S := fun k => k = g) (a := w) ((hKw5.out.alloc _).alloc _) hK8 (fun _ _ h => h))
                have hK78 := Aside0.mk (Kept.trans (S := fun k => k = g) (((Kept.refl _ w5).alloc _).alloc _) hK8 (fun _ _ h => h))
                simp at hs8
                clear hR8 hK8 X7 X8 X6 hR5 hKw5
                unfold tokV
                have c8 := fun i => blk_cell X8n.out i
                have f8 := fun i => blk_frozen X8n.out i
                go_wp2_with (fail)
                go_roundg gk
                case measure => omega
                case rel =>
                  have hR8o := hR8'.out
                  have hKw8o := hKw8.out
                  refine ⟨⟨⟨10, u.f1, [n], t.f2⟩, some ⟨w4.heap.size, 0, none⟩, 1, t5, r5, w4.heap.size + 1, rfl, rfl, hRow5.out, ?_, ?_, ?_, ?_, by (repeat' (first | (with_reducible assumption) | (with_reducible apply Rd.alloc) | (with_reducible apply Rd.drew) | (with_reducible apply Rd.drewN) | (with_reducible refine Rd.setO ?_ _ _ _ (by (first | (simp; done) | (simp; omega) | omega)) (by (first | (simp; done) | (simp; omega) | omega))))), by (repeat' (first | (with_reducible exact Kept.refl _ _) | (with_reducible assumption) | (with_reducible apply Kept.alloc) | (with_reducible apply Kept.drew) | (with_reducible apply Kept.drewN) | (with_reducible refine Kept.setCell ?_ _ _ _ ?_) | (with_reducible exact Or.inl rfl) | (left; assumption) | (right; simp; done) | (right; omega))), by omega, by omega, by omega⟩⟩
                  · exact blk_setO (blk_setO (blk_setO X7n.out (by omega)) (by omega)) (by omega)
                  · exact blk_set (blk_set (blk_set X8n.out 0 _) 1 _) 2 _
                  · exact blk_setO (blk_setO (blk_setO X6n.out (by omega)) (by omega)) (by omega)
                  · have hK78o := hK78.out
                    exact hO5.out.kept (T := fun k => k = g) (by (repeat' (first | (with_reducible exact Kept.refl _ _) | (with_reducible assumption) | (with_reducible apply Kept.alloc) | (with_reducible apply Kept.drew) | (with_reducible apply Kept.drewN) | (with_reducible refine Kept.setCell ?_ _ _ _ ?_) | (with_reducible exact Or.inl rfl) | (left; assumption) | (right; simp; done) | (right; omega)))) (fun j _ q => by have q' : j = g := q; exact Or.inl (by omega)) (fun j _ q => q)
          · have h1' := eq_false h1
            have hh := Hq.out
            simp only [takeP] at hh
            have hbad : R = .bad 30 u.f2 := by
              by_cases q4 : u.f0 = 4
              · rw [if_pos q4, if_pos (Or.inl h1)] at hh
                exact (Option.some.inj hh).symm
              · rw [if_neg q4, if_neg (by simpa using hu4 q4), if_pos (Or.inl h1)] at hh
                exact (Option.some.inj hh).symm
            subst hbad
            clear hh
            go_wp2_with (go_at_call 42; go_loud (refine (fail_calls _ _ _).mono ?_; rintro e w4 ⟨he, hb⟩; unfold Thrown at he; subst he))
            exact ⟨rfl, rfl, Kept.below (hKw3.out.alloc _) hb⟩
end Go.Proofs.YtfgogfdbjbnlbaaDoor.PExpr
end
section
namespace Go.Proofs.YtfgogfdbjbnlbaaDoor.PExpr
open Go.RowKit Go.Proofs.YtfgogfdbjbnlbaaDoorW.PrintWords Go.Proofs.YtfgogfdbjbnlbaaDoorW.PrintLast Go.Proofs.YtfgogfdbjbnlbaaDoorW.PrintMore
set_option linter.unusedVariables false
set_option linter.unusedSimpArgs false
def inP (part : List Tk → Option Res) (l : List Tk) : Option Res := (part l).bind fun n => n.then fun n l => wantP sShut l fun l => some (.ok n l)
def PostIn (g T bn : Nat) (d : Int) (w : World) (r : Res) (e : Ending) (w' : World) : Prop :=
  match r with
  | .ok n l => e = .returned (.tuple #[]) ∧ ∃ A c, w'.heap[bn]? = some (.cells (ndCs n A c) 58 (0, 0)) ∧ NdS (fun k => k < w.heap.size) w' n A c ∧ l ≠ [] ∧ Rd g T w' l d ∧ Kept (fun k => k = g ∨ k = bn) w w'
  | .bad why pos => Thrown e why pos ∧ Kept (fun k => k = g ∨ k = bn) w w'
set_option maxHeartbeats 1000000 in
set_option maxRecDepth 100000 in
theorem prim1_calls (g T : Nat) (d : Int) (part : List Tk → Option Res) (hp : PartC g T d part 41) (a bn : Nat) (l : List Tk) (R : Res) (w : World) (cs : Array Value) (hl : l ≠ []) (hR : Rd g T w l d) (ha : w.cell? ⟨a, 0, none⟩ = some (.pointer (some ⟨g, 0, none⟩)))
    (haB : w.heap[a]? = some (.cells #[.pointer (some ⟨g, 0, none⟩)] 82 (0, 0))) (hbn : w.heap[bn]? = some (.cells cs 58 (0, 0))) (hcs : cs.size = 4) (hng : bn ≠ g) (hnT : bn ≠ T) (han : a ≠ bn) (hag : a ≠ g) (h : inP part l = some R) :
    Calls Tryd.prog 91 #[.pointer (some ⟨a, 0, none⟩), .pointer (some ⟨bn, 0, none⟩)] w (PostIn g T bn d w R) := by
  unfold inP at h
  obtain ⟨r1, hr1, h⟩ := Option.bind_eq_some_iff.mp h
  have hc1 := Aside0.mk (hp w l r1 hl hR hr1)
  have hB := Aside0.mk hbn
  have hA := Aside0.mk haB
  have hbl := blk_lt hbn
  clear hp hbn haB
  cases r1 with
  | bad why pos =>
    obtain rfl := Option.some.inj (show some (Res.bad why pos) = some R from h)
    go_enter Tryd.func91, Tryd.ntmps91
    go_wp2_with (go_at_call 41; go_loud (with_reducible refine hc1.out.mono ?_; intro e w1 hq; obtain ⟨rfl, hK1⟩ := Post.bad_ hq))
    exact ⟨rfl, rfl, hK1.mono (fun _ _ q => Or.inl q)⟩
  | ok n l1 =>
    cases l1 with
    | nil => cases h
    | cons t r =>
    replace h : (if isIt [sShut] t = true then (if r.isEmpty = true then none else some (.ok n r)) else some (.bad 30 t.f2)) = some R := h
    have H := Aside0.mk h
    clear h
    go_enter Tryd.func91, Tryd.ntmps91
    go_wp2_with (fail)
    refine hc1.out.mono ?_
    intro e w1 hq
    obtain ⟨A1, c1, rfl, hN1, hl1, hR1, hK1⟩ := Post.ok_ hq
    clear hq
    unfold ndV
    have hb1 := hK1.blk hB.out hng
    have ha1 := hK1.blk hA.out hag
    have hs1 := hK1.size
    have q := fun i => blk_cell hb1 i
    have z := fun i => blk_frozen hb1 i
    have qa := blk_cell ha1 0
    have s0 : cs[0]?.isSome = true := by simp [hcs]
    have s1 : cs[1]?.isSome = true := by simp [hcs]
    have s2 : cs[2]?.isSome = true := by simp [hcs]
    have s3 : cs[3]?.isSome = true := by simp [hcs]
    have HB1 := Aside0.mk hb1
    have HN := Aside0.mk hN1
    have HR := Aside0.mk hR1
    have HK := Aside0.mk hK1
    clear hb1 ha1 hN1 hR1 hK1
    go_wp2_with (fail)
    have hRo := HR.out
    have hR2 := Aside0.mk (show Rd g T ((((w1.setCell ⟨bn, 0, none⟩ (.int .i64 n.f0)).setCell ⟨bn, 1, none⟩ (.string n.f1)).setCell ⟨bn, 2, none⟩ (.slice A1 n.f2.length c1)).setCell ⟨bn, 3, none⟩ (.int .i64 n.f3)) (t :: r) d from by (repeat' (first | (with_reducible assumption) | (with_reducible apply Rd.alloc) | (with_reducible apply Rd.drew) | (with_reducible apply Rd.drewN) | (with_reducible refine Rd.setO ?_ _ _ _ (by (first | (simp; done) | (simp; omega) | omega)) (by (first | (simp; done) | (simp; omega) | omega))))))
    have hKw := HK.out.mono (T := fun k => k = g ∨ k = bn) (fun _ _ q => Or.inl q)
    have hK2 := Aside0.mk (show Kept (fun k => k = g ∨ k = bn) w ((((w1.setCell ⟨bn, 0, none⟩ (.int .i64 n.f0)).setCell ⟨bn, 1, none⟩ (.string n.f1)).setCell ⟨bn, 2, none⟩ (.slice A1 n.f2.length c1)).setCell ⟨bn, 3, none⟩ (.int .i64 n.f3)) from by repeat' (first | exact hKw | (refine Kept.setCell ?_ _ _ _ (Or.inl (Or.inr rfl)))))
    have X := Aside0.mk (show ((((w1.setCell ⟨bn, 0, none⟩ (.int .i64 n.f0)).setCell ⟨bn, 1, none⟩ (.string n.f1)).setCell ⟨bn, 2, none⟩ (.slice A1 n.f2.length c1)).setCell ⟨bn, 3, none⟩ (.int .i64 n.f3)).heap[bn]? = some (.cells (ndCs n A1 c1) 58 (0, 0)) from by
      have := blk_set (blk_set (blk_set (blk_set HB1.out 0 (.int .i64 n.f0)) 1 (.string n.f1)) 2 (.slice A1 n.f2.length c1)) 3 (.int .i64 n.f3)
      rw [this]
      congr 2
      apply Array.ext'
      match cs, hcs with
      | ⟨[x0, x1, x2, x3]⟩, _ => rfl)
    have hN2 := Aside0.mk (HN.out.kept (S' := fun k => k < w.heap.size) (T := fun k => k = bn) (show Kept _ w1 ((((w1.setCell ⟨bn, 0, none⟩ (.int .i64 n.f0)).setCell ⟨bn, 1, none⟩ (.string n.f1)).setCell ⟨bn, 2, none⟩ (.slice A1 n.f2.length c1)).setCell ⟨bn, 3, none⟩ (.int .i64 n.f3)) from by (repeat' (first | (with_reducible exact Kept.refl _ _) | (with_reducible assumption) | (with_reducible apply Kept.alloc) | (with_reducible apply Kept.drew) | (with_reducible apply Kept.drewN) | (with_reducible refine Kept.setCell ?_ _ _ _ ?_) | (with_reducible exact Or.inl rfl) | (left; assumption) | (right; simp; done) | (right; omega)))) (fun j _ q => by have q' : j = bn := q; show j < _; omega) (fun j _ q => q))
    generalize ((((w1.setCell ⟨bn, 0, none⟩ (.int .i64 n.f0)).setCell ⟨bn, 1, none⟩ (.string n.f1)).setCell ⟨bn, 2, none⟩ (.slice A1 n.f2.length c1)).setCell ⟨bn, 3, none⟩ (.int .i64 n.f3)) = w2 at hR2 hK2 X hN2 ⊢
    clear hRo HR HK HN HB1 hKw q z qa
    have hh := H.out
    cases ht : isIt [sShut] t with
    | false =>
      rw [if_neg (by rw [ht]; simp)] at hh
      obtain rfl := Option.some.inj hh
      refine (want_no g T _ t r d sShut hR2.out ht).mono ?_
      rintro e w3 ⟨he, hK3⟩
      unfold Thrown at he
      subst he
      exact ⟨rfl, rfl, Kept.trans hK2.out hK3 (fun _ _ q => Or.inl q)⟩
    | true =>
      rw [if_pos ht] at hh
      have hr : r ≠ [] := by
        intro q
        subst q
        cases hh
      rw [if_neg (by simpa using hr)] at hh
      obtain rfl := Option.some.inj hh
      refine (want_yes g T _ t r d sShut hR2.out ht hr).mono ?_
      rintro e w3 ⟨rfl, hR3, hK3⟩
      have hX3 := hK3.blk X.out hng
      have hg := hR.lt
      have hN3 := hN2.out.kept (S' := fun k => k < w.heap.size) hK3 (fun j _ q => by have q' : j = g := q; show j < _; omega) (fun j _ q => q)
      have hK4 := Kept.trans hK2.out hK3 (fun _ _ q => Or.inl q)
      have G := Aside0.mk (And.intro hX3 (And.intro hN3 (And.intro hR3 hK4)))
      clear hX3 hN3 hR3 hK4 hK3
      go_wp2_with (fail)
      go_end0
      exact ⟨rfl, A1, c1, G.out.1, G.out.2.1, hr, G.out.2.2.1, G.out.2.2.2⟩
end Go.Proofs.YtfgogfdbjbnlbaaDoor.PExpr
end
section
namespace Go.Proofs.YtfgogfdbjbnlbaaDoor.PExpr
open Go.RowKit Go.Proofs.YtfgogfdbjbnlbaaDoorW.PrintWords Go.Proofs.YtfgogfdbjbnlbaaDoorW.PrintLast Go.Proofs.YtfgogfdbjbnlbaaDoorW.PrintMore
set_option linter.unusedVariables false
set_option linter.unusedSimpArgs false
abbrev Pt := S109
abbrev kPt := k109
def Lx (g T : Nat) (w : World) (s : ByteArray) (l : List Pt) : Prop :=
  ∃ A c, w.heap[g]? = some (.cells #[.string s, .slice A l.length c] 81 (0, 0)) ∧ l.length ≤ c ∧ T ≠ g ∧ (l ≠ [] → ∃ off, A = some ⟨T, off, none⟩) ∧ Kd.C kPt w A l.length l
theorem Lx.lt {g T : Nat} {w : World} {s : ByteArray} {l : List Pt} (h : Lx g T w s l) : g < w.heap.size := by
  obtain ⟨A, c, hb, _⟩ := h
  exact (Array.getElem?_eq_some_iff.1 hb).1
theorem parts_same {w w' : World} {T : Nat} {A : Option Addr} {n : Nat} {l : List Pt} (h : Kd.C kPt w A n l) (hA : l ≠ [] → ∃ off, A = some ⟨T, off, none⟩) (hT : w'.heap[T]? = w.heap[T]?) : Kd.C kPt w' A n l := by
  refine ⟨h.1, h.2.1, fun hn => ?_⟩
  obtain ⟨ad, e, hc⟩ := h.2.2 hn
  have hl : l ≠ [] := by
    intro q
    subst q
    have := h.1
    simp at this
    omega
  obtain ⟨off, eA⟩ := hA hl
  refine ⟨ad, e, fun j p hj => ?_⟩
  obtain ⟨c, h1, h2, h3⟩ := hc j p hj
  refine ⟨c, h1, ?_, fun i u hu => ?_⟩
  · obtain rfl := k109_open h2
    exact k109_mk _ _
  · rw [eA] at e
    obtain rfl := Option.some.inj e
    have := h3 i u hu
    unfold World.cell? at this ⊢
    have eb : ((⟨T, off, none⟩ : Addr).add (j * (kPt).sz + i)).block = T := by unfold Addr.add; split <;> rfl
    rw [eb] at this ⊢
    rw [hT]
    exact this
theorem Lx.alloc {g T : Nat} {w : World} {s : ByteArray} {l : List Pt} (h : Lx g T w s l) (o : Obj) : Lx g T (w.alloc o) s l := by
  have hlt := h.lt
  obtain ⟨A, c, hb, hl, hT, hA, hC⟩ := h
  exact ⟨A, c, by rw [(below_alloc (Below.refl w.heap.size w) o).block g hlt]; exact hb, hl, hT, hA, Kd.C_alloc hC o⟩
theorem Lx.drewN {g T : Nat} {w : World} {s : ByteArray} {l : List Pt} (h : Lx g T w s l) (m : Nat) : Lx g T (w.drewN m) s l := by
  have hlt := h.lt
  obtain ⟨A, c, hb, hl, hT, hA, hC⟩ := h
  exact ⟨A, c, by rw [(pw_below_drewN (Below.refl w.heap.size w) m).block g hlt]; exact hb, hl, hT, hA, Kd.C_drewN hC m⟩
theorem Lx.drew {g T : Nat} {w : World} {s : ByteArray} {l : List Pt} (h : Lx g T w s l) : Lx g T w.drew s l := by
  have hlt := h.lt
  obtain ⟨A, c, hb, hl, hT, hA, hC⟩ := h
  exact ⟨A, c, by rw [(below_drew (Below.refl w.heap.size w)).block g hlt]; exact hb, hl, hT, hA, Kd.C_drew hC⟩
theorem Lx.below {g T : Nat} {w w' : World} {s : ByteArray} {l : List Pt} (h : Lx g T w s l) (hb : Below w.heap.size w w') : Lx g T w' s l := by
  have hlt := h.lt
  obtain ⟨A, c, hb', hl, hT, hA, hC⟩ := h
  exact ⟨A, c, by rw [hb.block g hlt]; exact hb', hl, hT, hA, Kd.C_below hC hb⟩
theorem Lx.cells {g T : Nat} {w : World} {s : ByteArray} {p : Pt} {r : List Pt} (h : Lx g T w s (p :: r)) : ∃ off c, w.cell? ⟨g, 0, none⟩ = some (.string s) ∧ w.cell? ⟨g, 1, none⟩ = some (.slice (some ⟨T, off, none⟩) (r.length + 1) c) ∧ w.frozen? ⟨g, 1, none⟩ = false ∧ r.length + 1 ≤ c ∧ T ≠ g ∧ T < w.heap.size ∧
    w.cell? ⟨T, off, none⟩ = some (.int .i64 p.f0) ∧ w.cell? ⟨T, off + 1, none⟩ = some (.string p.f1) ∧ w.cell? ⟨T, off + 2, none⟩ = some (.int .i64 p.f2) ∧ Kd.C kPt w (some ⟨T, off, none⟩) (p :: r).length (p :: r) := by
  obtain ⟨A, c, hb, hl, hT, hA, hC⟩ := h
  obtain ⟨off, rfl⟩ := hA (by simp)
  obtain ⟨ad, ead, x0, x1, x2⟩ := at_T109 hC 0 (by decide) (by simp)
  obtain rfl := Option.some.inj ead
  exact ⟨off, c, by rw [blk_cell hb]; rfl, by rw [blk_cell hb]; rfl, blk_frozen hb 1, hl, hT, World.block_lt_of_cell? w _ x0, x0, x1, x2, hC⟩
theorem Lx.nil_cells {g T : Nat} {w : World} {s : ByteArray} (h : Lx g T w s []) : ∃ A c, w.cell? ⟨g, 1, none⟩ = some (.slice A 0 c) := by
  obtain ⟨A, c, hb, hl, hT, hA, hC⟩ := h
  exact ⟨A, c, by rw [blk_cell hb]; rfl⟩
theorem parts_tail {w : World} {T off : Nat} {p : Pt} {r : List Pt} (h : Kd.C kPt w (some ⟨T, off, none⟩) (p :: r).length (p :: r)) : Kd.C kPt w (some ⟨T, off + 3, none⟩) r.length r := by
  obtain ⟨h1, h2, h3⟩ := h
  obtain ⟨ad, e, hc⟩ := h3 (by simp)
  obtain rfl := Option.some.inj e
  refine ⟨rfl, by rw [List.length_cons] at h2; omega, fun _ => ⟨_, rfl, fun j p hj => ?_⟩⟩
  obtain ⟨c, q1, q2, q3⟩ := hc (j + 1) p (by simpa using hj)
  refine ⟨c, q1, q2, fun i u hu => ?_⟩
  have := q3 i u hu
  have es : (kPt).sz = 3 := rfl
  rw [es] at this ⊢
  rw [← this]
  congr 1
  unfold Addr.add
  split
  · rename_i hz
    rw [if_neg (by omega)]
    obtain ⟨rfl, rfl⟩ : j = 0 ∧ i = 0 := by omega
    rfl
  · rw [if_neg (by omega)]
    simp
    omega
theorem Lx.tail {g T off c : Nat} {w : World} {s : ByteArray} {p : Pt} {r : List Pt} (h : Lx g T w s (p :: r)) (h1 : w.cell? ⟨g, 1, none⟩ = some (.slice (some ⟨T, off, none⟩) (r.length + 1) c)) (hc : r.length + 1 ≤ c) :
    Lx g T (w.setCell ⟨g, 1, none⟩ (.slice (if c = 1 then some ⟨T, off, none⟩ else some ⟨T, off + 3, none⟩) r.length (c - 1))) s r := by
  obtain ⟨A, c', hb, hl, hT, hA, hC⟩ := h
  obtain ⟨off', rfl⟩ := hA (by simp)
  rw [blk_cell hb] at h1
  have e := Option.some.inj (show some (Value.slice (some ⟨T, off', none⟩) (p :: r).length c') = some (Value.slice (some ⟨T, off, none⟩) (r.length + 1) c) from h1)
  injection e with e1 e2 e3
  injection e1 with e1
  injection e1 with _ e1 _
  subst e1
  subst e3
  have hTs := Below.heap_setCell w ⟨g, 1, none⟩ (.slice (if c' = 1 then some ⟨T, off', none⟩ else some ⟨T, off' + 3, none⟩) r.length (c' - 1)) T hT
  by_cases hone : c' = 1
  · have hr : r = [] := by
      have : r.length = 0 := by omega
      simpa using this
    subst hr
    rw [if_pos hone]
    exact ⟨_, _, blk_set hb 1 _, by simp, hT, fun q => absurd rfl q, ⟨rfl, by simp, fun q => absurd q (by simp)⟩⟩
  · rw [if_neg hone] at hTs ⊢
    exact ⟨_, _, blk_set hb 1 _, by omega, hT, fun _ => ⟨_, rfl⟩, parts_same (T := T) (parts_tail hC) (fun _ => ⟨_, rfl⟩) hTs⟩
end Go.Proofs.YtfgogfdbjbnlbaaDoor.PExpr
end
section
namespace Go.Proofs.YtfgogfdbjbnlbaaDoor.PExpr
open Go.RowKit Go.Proofs.YtfgogfdbjbnlbaaDoorW.PrintWords Go.Proofs.YtfgogfdbjbnlbaaDoorW.PrintLast Go.Proofs.YtfgogfdbjbnlbaaDoorW.PrintMore
set_option linter.unusedVariables false
set_option linter.unusedSimpArgs false
def ptV (p : Pt) : Value := .agg #[.int .i64 p.f0, .string p.f1, .int .i64 p.f2]
set_option maxHeartbeats 1000000 in
set_option maxRecDepth 100000 in
theorem digits_calls (p : Pt) (w : World) : Calls Tryd.prog 52 #[ptV p] w fun e w' => e = .returned (.bool (p.f0 == 1)) ∧ Below w.heap.size w w' := by
  unfold ptV
  go_enter Tryd.func52, Tryd.ntmps52
  go_wp2
  go_ret
  exact ⟨rfl, by repeat (first | exact Below.refl _ _ | apply below_alloc)⟩
set_option maxHeartbeats 1000000 in
set_option maxRecDepth 100000 in
theorem plain_calls (p : Pt) (w : World) : Calls Tryd.prog 54 #[ptV p] w fun e w' => e = .returned (.bool (p.f0 != 3)) ∧ Below w.heap.size w w' := by
  unfold ptV
  go_enter Tryd.func54, Tryd.ntmps54
  go_wp2
  go_ret
  exact ⟨rfl, by repeat (first | exact Below.refl _ _ | apply below_alloc)⟩
set_option maxHeartbeats 1000000 in
set_option maxRecDepth 100000 in
theorem ahead_calls (p : Pt) (k : Int) (b : Nat) (w : World) (h : w.cell? ⟨b, 0, none⟩ = some (.int .i64 k)) (hb : b < w.heap.size) : Calls Tryd.prog 69 #[ptV p, .pointer (some ⟨b, 0, none⟩)] w fun e w' => e = .returned (.bool (decide (p.f2 < k))) ∧ Below w.heap.size w w' := by
  unfold ptV
  go_enter Tryd.func69, Tryd.ntmps69
  go_wp2
  go_ret
  exact ⟨rfl, by repeat (first | exact Below.refl _ _ | apply below_alloc)⟩
def pairs4 : List ByteArray := [⟨#[60, 61]⟩, ⟨#[62, 61]⟩, ⟨#[60, 62]⟩, ⟨#[58, 58]⟩]
set_option maxHeartbeats 1000000 in
set_option maxRecDepth 100000 in
theorem pair_calls (p q : Pt) (b : Nat) (w : World) (h : w.cell? ⟨b, 1, none⟩ = some (.string p.f1)) (hb : b < w.heap.size) (hs : p.f1.size + q.f1.size ≤ 100000) : Calls Tryd.prog 56 #[ptV q, .pointer (some ⟨b, 0, none⟩)] w fun e w' => e = .returned (.bool (hasB pairs4 (p.f1 ++ q.f1))) ∧ Below w.heap.size w w' := by
  unfold ptV
  have hs' : p.f1.size + q.f1.size ≤ 9223372036854775807 := by omega
  have hS := strs_new (w.alloc (.cells #[.int .i64 q.f0, .string q.f1, .int .i64 q.f2] 109)) pairs4 #[.string ⟨#[60, 61]⟩, .string ⟨#[62, 61]⟩, .string ⟨#[60, 62]⟩, .string ⟨#[58, 58]⟩] rfl (by decide)
  simp only [World.size_alloc] at hS
  have HS := Aside0.mk hS
  clear hS
  go_enter Tryd.func56, Tryd.ntmps56
  go_wp2_with (fail)
  refine (contains_calls _ 4 pairs4 (p.f1 ++ q.f1) _ HS.out (by decide) (by decide)).mono ?_
  rintro e w' ⟨rfl, ⟨m, rfl⟩⟩
  go_wp2_with (fail)
  go_ret
  exact ⟨rfl, pw_below_drewN (below_alloc (below_alloc (Below.refl _ _) _) _) m⟩
end Go.Proofs.YtfgogfdbjbnlbaaDoor.PExpr
end
section
namespace Go.Proofs.YtfgogfdbjbnlbaaDoor.PExpr
open Go.RowKit Go.Proofs.YtfgogfdbjbnlbaaDoorW.PrintWords Go.Proofs.YtfgogfdbjbnlbaaDoorW.PrintLast Go.Proofs.YtfgogfdbjbnlbaaDoorW.PrintMore
set_option linter.unusedVariables false
set_option linter.unusedSimpArgs false
set_option maxHeartbeats 1000000 in
set_option maxRecDepth 100000 in
theorem ltake_nil (g T : Nat) (w : World) (s : ByteArray) (pos : Int) (fv : Value) (hL : Lx g T w s []) :
    Calls Tryd.prog 53 #[.pointer (some ⟨g, 0, none⟩), .int .i64 pos, fv] w fun e w' => e = .returned (.tuple #[.string ⟨#[]⟩, .bool false]) ∧ w' = w := by
  obtain ⟨A, c, h1⟩ := hL.nil_cells
  go_enter Tryd.func53, Tryd.ntmps53
  go_wp2
  go_ret2
  exact ⟨rfl, rfl⟩
set_option maxHeartbeats 1000000 in
set_option maxRecDepth 100000 in
theorem ltake_far (g T : Nat) (w : World) (s : ByteArray) (p : Pt) (r : List Pt) (pos : Int) (fv : Value) (hL : Lx g T w s (p :: r)) (hp : p.f2 ≠ pos) :
    Calls Tryd.prog 53 #[.pointer (some ⟨g, 0, none⟩), .int .i64 pos, fv] w fun e w' => e = .returned (.tuple #[.string ⟨#[]⟩, .bool false]) ∧ w' = w := by
  obtain ⟨off, c, h0, h1, z1, hc, hT, hTl, x0, x1, x2, hC⟩ := hL.cells
  have hp' := eq_false hp
  have hn0 : ((r.length : Int) + 1 = 0) = False := eq_false (by omega)
  go_enter Tryd.func53, Tryd.ntmps53
  go_wp2
  go_ret2
  exact ⟨rfl, rfl⟩
set_option maxHeartbeats 1000000 in
set_option maxRecDepth 100000 in
theorem ltake_no (F : FuncId) (hF : ∀ args w, (callFunc F args).run Tryd.prog w = .ok (.enter F args) w) (caps : Array Value) (g T : Nat) (w : World) (s : ByteArray) (p : Pt) (r : List Pt) (pos : Int) (hL : Lx g T w s (p :: r)) (hp : p.f2 = pos)
    (hc : Calls Tryd.prog F (#[ptV p] ++ caps) w fun e w' => e = .returned (.bool false) ∧ Below w.heap.size w w') :
    Calls Tryd.prog 53 #[.pointer (some ⟨g, 0, none⟩), .int .i64 pos, .func (.func F) #[] caps] w fun e w' => e = .returned (.tuple #[.string ⟨#[]⟩, .bool false]) ∧ Below w.heap.size w w' := by
  obtain ⟨off, c, h0, h1, z1, hc', hT, hTl, x0, x1, x2, hC⟩ := hL.cells
  subst hp
  unfold ptV at hc
  have HC := Aside0.mk hc
  clear hc
  have hn0 : ((r.length : Int) + 1 = 0) = False := eq_false (by omega)
  go_enter Tryd.func53, Tryd.ntmps53
  go_wp2_with (go_at_fn F; go_loud (refine HC.out.mono ?_; rintro e w1 ⟨rfl, hb⟩))
  go_ret2
  exact ⟨rfl, hb⟩
set_option maxHeartbeats 1000000 in
set_option maxRecDepth 100000 in
theorem ltake_yes (F : FuncId) (hF : ∀ args w, (callFunc F args).run Tryd.prog w = .ok (.enter F args) w) (caps : Array Value) (g T : Nat) (w : World) (s : ByteArray) (p : Pt) (r : List Pt) (pos : Int) (hL : Lx g T w s (p :: r)) (hp : p.f2 = pos)
    (hc : Calls Tryd.prog F (#[ptV p] ++ caps) w fun e w' => e = .returned (.bool true) ∧ Below w.heap.size w w') :
    Calls Tryd.prog 53 #[.pointer (some ⟨g, 0, none⟩), .int .i64 pos, .func (.func F) #[] caps] w fun e w' => e = .returned (.tuple #[.string p.f1, .bool true]) ∧ Lx g T w' s r ∧ Kept (fun k => k = g) w w' := by
  have hg := hL.lt
  obtain ⟨off, c, h0, h1, z1, hc', hT, hTl, x0, x1, x2, hC⟩ := hL.cells
  subst hp
  unfold ptV at hc
  have HC := Aside0.mk hc
  clear hc
  have hn0 : ((r.length : Int) + 1 = 0) = False := eq_false (by omega)
  go_enter Tryd.func53, Tryd.ntmps53
  go_wp2_with (go_at_fn F; go_loud (refine HC.out.mono ?_; rintro e w1 ⟨rfl, hb⟩; obtain ⟨off, c, h0, h1, z1, hc', hT, hTl, x0, x1, x2, hC⟩ := (hL.below hb).cells; have hg' := (hL.below hb).lt; have HB := Aside0.mk hb; clear hb))
  all_goals go_ret2
  · have ht := (hL.below HB.out).tail h1 hc'
    have e1 : c = 1 := by assumption
    rw [if_pos e1, e1] at ht
    exact ⟨rfl, ht.alloc _, by
      have hk : Kept (fun k => k = g) w w1 := (Kept.refl _ w).below HB.out
      (repeat' (first | (with_reducible exact Kept.refl _ _) | (with_reducible assumption) | (with_reducible apply Kept.alloc) | (with_reducible apply Kept.drew) | (with_reducible apply Kept.drewN) | (with_reducible refine Kept.setCell ?_ _ _ _ ?_) | (with_reducible exact Or.inl rfl) | (left; assumption) | (right; simp; done) | (right; omega)))⟩
  · have ht := (hL.below HB.out).tail h1 hc'
    rw [if_neg (by assumption)] at ht
    exact ⟨rfl, ht.alloc _, by
      have hk : Kept (fun k => k = g) w w1 := (Kept.refl _ w).below HB.out
      (repeat' (first | (with_reducible exact Kept.refl _ _) | (with_reducible assumption) | (with_reducible apply Kept.alloc) | (with_reducible apply Kept.drew) | (with_reducible apply Kept.drewN) | (with_reducible refine Kept.setCell ?_ _ _ _ ?_) | (with_reducible exact Or.inl rfl) | (left; assumption) | (right; simp; done) | (right; omega)))⟩
end Go.Proofs.YtfgogfdbjbnlbaaDoor.PExpr
end
section
namespace Go.Proofs.YtfgogfdbjbnlbaaDoor.PExpr
open Go.RowKit Go.Proofs.YtfgogfdbjbnlbaaDoorW.PrintWords Go.Proofs.YtfgogfdbjbnlbaaDoorW.PrintLast Go.Proofs.YtfgogfdbjbnlbaaDoorW.PrintMore
set_option linter.unusedVariables false
set_option linter.unusedSimpArgs false
abbrev Kid := Nd × Option Addr × Nat
def flat (ks : List Kid) : List Value := ks.flatMap fun k => (ndCs k.1 k.2.1 k.2.2).toList
def Kids (base : Nat) (w : World) (v : Value) (ks : List Kid) : Prop :=
  w.ownsRow base 58 4 v ks.length (flat ks) ∧ ∀ k ∈ ks, NdS (fun j => j < base ∨ some j = v.ownBlock) w k.1 k.2.1 k.2.2
theorem flat_length (ks : List Kid) : (flat ks).length = ks.length * 4 := by
  unfold flat
  induction ks with
  | nil => rfl
  | cons k r ih => rw [List.flatMap_cons, List.length_append, ih, List.length_cons]; simp [ndCs]; omega
theorem flat_snoc (ks : List Kid) (k : Kid) : flat (ks ++ [k]) = flat ks ++ (ndCs k.1 k.2.1 k.2.2).toList := by
  unfold flat
  simp
theorem Kids.nil (base : Nat) (w : World) : Kids base w (.slice none 0 0) [] := ⟨World.ownsRow_nil _ _ _ _, fun k hk => by cases hk⟩
theorem ownsRow_same {w w' : World} {base : Nat} {v : Value} {n : Nat} {xs : List Value} (h : w.ownsRow base 58 4 v n xs) (hb : ∀ j, j < w.heap.size → base ≤ j → w'.heap[j]? = w.heap[j]?) : w'.ownsRow base 58 4 v n xs := by
  refine ⟨h.1, ?_⟩
  rcases h.2 with q | ⟨g, cap, cur, q1, q2, q3, q4⟩
  · exact .inl q
  · exact .inr ⟨g, cap, cur, q1, q2, by rw [hb g (Array.getElem?_eq_some_iff.1 q3).1 q2]; exact q3, q4⟩
theorem Kids.kept {base : Nat} {w w' : World} {v : Value} {ks : List Kid} {T : Nat → Prop} (h : Kids base w v ks) (k : Kept T w w') (hT : ∀ j, j < w.heap.size → T j → j < base) : Kids base w' v ks :=
  ⟨ownsRow_same h.1 (fun j hj hb => k.block j hj (fun q => by have := hT j hj q; omega)), fun x hx => (h.2 x hx).kept k (fun j hj q => Or.inl (hT j hj q)) (fun j _ q => q)⟩
theorem Kids.form {base : Nat} {w : World} {v : Value} {ks : List Kid} (h : Kids base w v ks) : ∃ A c, v = .slice A ks.length c ∧ ks.length ≤ c ∧ (∀ j, v.ownBlock = some j → base ≤ j ∧ j < w.heap.size) := by
  have hl := h.1.lt
  rcases h.1.2 with ⟨q1, q2⟩ | ⟨g, cap, cur, q1, q2, q3, q4, _⟩
  · exact ⟨none, 0, by rw [q1, q2], by omega, hl⟩
  · exact ⟨some ⟨g, 0, none⟩, cap, q1, q4, hl⟩
theorem grown_kept {w w' : World} {row : Option Nat} (h : w.grownBy w' row) : Kept (fun k => some k = row) w w' := ⟨h.os, h.tape, h.output, h.size, fun k hk hn => h.block k hk hn⟩
theorem kids_reps (W : World) (ok : Nat → Prop) : ∀ (ks : List Kid), (∀ x ∈ ks, kNd.M W 0 ok x.1 (ndCs x.1 x.2.1 x.2.2).toList) → Reps (kNd.M W 0 ok) 4 (ks.map (·.1)) (flat ks)
  | [], _ => Reps.none _ _
  | x :: r, h => by
    have h1 := kids_reps W ok r (fun y hy => h y (by simp [hy]))
    have h2 : Reps (kNd.M W 0 ok) 4 [x.1] (ndCs x.1 x.2.1 x.2.2).toList := Reps.snoc (Reps.none _ _) (h x (by simp)) rfl
    have h3 := Kd.reps_append h2 h1
    have e : flat (x :: r) = (ndCs x.1 x.2.1 x.2.2).toList ++ flat r := by unfold flat; rw [List.flatMap_cons]
    rw [e]
    exact h3
theorem Kids.node {base : Nat} {w : World} {A : Option Addr} {c n : Nat} {ks : List Kid} (h : Kids base w (.slice A n c) ks) (hn : n = ks.length) (kind : Int) (s : ByteArray) (p : Int) : NdS (fun j => j < base) w ⟨kind, s, ks.map (·.1), p⟩ A c := by
  subst hn
  obtain ⟨A', c', e, hc, hl⟩ := h.form
  injection e with e1 e2 e3
  subst e1
  subst e3
  refine ⟨by simpa using hc, fun W k => ?_⟩
  have hW : Kids base W (.slice A ks.length c) ks := h.kept k (fun _ _ q => q)
  have hlen : (ks.map (·.1)).length = ks.length := List.length_map ..
  show Kd.R kNd 58 W 0 (fun k => ¬ k < base) (.slice A (ks.map (·.1)).length c) (ks.map (·.1))
  rw [hlen]
  refine ⟨fun j hj => ?_, flat ks, ?_, ?_⟩
  · have := (hW.1.lt j hj).1
    omega
  · rw [hlen]
    exact ⟨hW.1.1, hW.1.2.imp id (fun ⟨g, cap, cur, q1, _, q3⟩ => ⟨g, cap, cur, q1, Nat.zero_le _, q3⟩)⟩
  · exact kids_reps W _ ks (fun x hx => by
      have hn := (hW.2 x hx).2 W (Kept.refl _ _)
      exact k58_mkM W 0 _ x.1 (Kd.R_mono hn (fun j hj => ⟨fun q => hj (Or.inl q), fun q => hj (Or.inr q)⟩)))
theorem Kids.push {base g cap n : Nat} {w w1 : World} {v : Value} {ks : List Kid} (h : Kids base w v ks) (hbase : base ≤ w.heap.size) (hn : n = ks.length) (hown : w1.ownsRow base 58 4 (.slice (some ⟨g, 0, none⟩) (n + 1) cap) (n + 1) (flat ks ++ (zeroNd).toList))
    (hgrow : w.grownBy w1 v.ownBlock) (hat : v.ownBlock = some g ∨ g = w.heap.size) {m : Nd} {A : Option Addr} {c : Nat} (hm : NdS (fun j => j < base ∨ some j = v.ownBlock) w m A c) :
    Kids base ((((w1.setCell ⟨g, n * 4, none⟩ (.int .i64 m.f0)).setCell ⟨g, n * 4 + 1, none⟩ (.string m.f1)).setCell ⟨g, n * 4 + 2, none⟩ (.slice A m.f2.length c)).setCell ⟨g, n * 4 + 3, none⟩ (.int .i64 m.f3)) (.slice (some ⟨g, 0, none⟩) (n + 1) cap) (ks ++ [(m, A, c)]) := by
  subst hn
  obtain ⟨o1, g1⟩ := hown.stored (ks.length * 4) (.int .i64 m.f0)
  obtain ⟨o2, g2⟩ := o1.stored (ks.length * 4 + 1) (.string m.f1)
  obtain ⟨o3, g3⟩ := o2.stored (ks.length * 4 + 2) (.slice A m.f2.length c)
  obtain ⟨o4, g4⟩ := o3.stored (ks.length * 4 + 3) (.int .i64 m.f3)
  have kk : Kept (fun j => some j = v.ownBlock ∨ j = g) w ((((w1.setCell ⟨g, ks.length * 4, none⟩ (.int .i64 m.f0)).setCell ⟨g, ks.length * 4 + 1, none⟩ (.string m.f1)).setCell ⟨g, ks.length * 4 + 2, none⟩ (.slice A m.f2.length c)).setCell ⟨g, ks.length * 4 + 3, none⟩ (.int .i64 m.f3)) := by
    have k0 := (grown_kept hgrow).mono (T := fun j => some j = v.ownBlock ∨ j = g) (fun _ _ q => Or.inl q)
    exact (((k0.setCell _ _ _ (Or.inl (Or.inr rfl))).setCell _ _ _ (Or.inl (Or.inr rfl))).setCell _ _ _ (Or.inl (Or.inr rfl))).setCell _ _ _ (Or.inl (Or.inr rfl))
  have hT : ∀ j, j < w.heap.size → (some j = v.ownBlock ∨ j = g) → (j < base ∨ some j = v.ownBlock) := fun j hj q => by
    rcases q with q | q
    · exact Or.inr q
    · subst q
      rcases hat with h1 | h1
      · exact Or.inr h1.symm
      · omega
  have hS : ∀ j, j < w.heap.size → (j < base ∨ some j = (Value.slice (some ⟨g, 0, none⟩) (ks.length + 1) cap).ownBlock) → (j < base ∨ some j = v.ownBlock) := fun j hj q => by
    rcases q with q | q
    · exact Or.inl q
    · have q' : j = g := by simpa [Value.ownBlock] using q
      subst q'
      rcases hat with h1 | h1
      · exact Or.inr h1.symm
      · omega
  refine ⟨?_, fun k hk => ?_⟩
  · rw [List.length_append, flat_snoc]
    refine cast ?_ o4
    congr 1
    have e4 := flat_length ks
    rw [List.set_append_right _ _ (by omega), List.set_append_right _ _ (by omega), List.set_append_right _ _ (by omega), List.set_append_right _ _ (by omega), e4]
    simp [zeroNd, ndCs]
  · rcases List.mem_append.1 hk with hk | hk
    · exact (h.2 k hk).kept kk hT hS
    · have e : k = (m, A, c) := by simpa using hk
      subst e
      exact hm.kept kk hT hS
end Go.Proofs.YtfgogfdbjbnlbaaDoor.PExpr
end
section
namespace Go.Proofs.YtfgogfdbjbnlbaaDoor.PExpr
open Go.RowKit Go.Proofs.YtfgogfdbjbnlbaaDoorW.PrintWords Go.Proofs.YtfgogfdbjbnlbaaDoorW.PrintLast Go.Proofs.YtfgogfdbjbnlbaaDoorW.PrintMore
set_option linter.unusedVariables false
set_option linter.unusedSimpArgs false
def callCs (name : ByteArray) (pos : Int) (v : Value) : Array Value := #[.int .i64 9, .string name, v, .int .i64 pos]
theorem infoNd : (Tryd.prog.info? 58).map (fun i => (i.zero, i.size, i.bytes)) = some (some (.agg #[(.int .i64 0), (.string ⟨#[]⟩), (.slice none 0 0), (.int .i64 0)]), 4, 56) := by kernel_rfl
section
variable {P : Program} {ops : Array Oper} {Q : Exit → Act → World → Prop} {md : Region.Mode} {S : World → Prop} {ds : List Nat}
theorem rtwo {i j : Nat} {Ni Nj : Option Tmp} {oi oj : Oper} {fuel : Nat} {l : Array Bool} {a : Act} {w : World} (hi : ops[i]? = some oi) (hj : ops[j]? = some oj) (hNi : oi.dst = Ni) (hNj : oj.dst = Nj)
    (hc : (Region.ready md ops l == [i, j] && l.setIfInBounds i true == l.setIfInBounds i true && l.setIfInBounds j true == l.setIfInBounds j true) = true) (hdi : i ∉ ds) (hdj : j ∉ ds)
    (h1 : ∀ K : Act → World → Prop, Shut (∀ a' w', S w' → (S w' → wpAnyLast P md ops Q S ds fuel (l.setIfInBounds i true) a' w') → K a' w') → if Region.wanted oi (yielded ops a.tmps) = true then Oper.wp P oi a w K Q else K (a.put Ni undef) w)
    (h2 : ∀ K : Act → World → Prop, Shut (∀ a' w', S w' → (S w' → wpAnyLast P md ops Q S ds fuel (l.setIfInBounds j true) a' w') → K a' w') → if Region.wanted oj (yielded ops a.tmps) = true then Oper.wp P oj a w K Q else K (a.put Nj undef) w) :
    wpAnyLast P md ops Q S ds (fuel + 1) l a w := two_ _ _ hi hj hNi hNj hc hdi hdj h1 h2
theorem rtwoL {i j : Nat} {Ni Nj : Option Tmp} {oi oj : Oper} {fuel : Nat} {l : Array Bool} {a : Act} {w : World} (hi : ops[i]? = some oi) (hj : ops[j]? = some oj) (hNi : oi.dst = Ni) (hNj : oj.dst = Nj)
    (hc : (Region.ready md ops l == [i, j]) = true) (hdi : i ∈ ds) (hdj : j ∈ ds)
    (h1 : ∀ K : Act → World → Prop, Shut (∀ a' w', wpAnyLast P md ops Q S ds fuel (l.setIfInBounds i true) a' w' → K a' w') → if Region.wanted oi (yielded ops a.tmps) = true then Oper.wp P oi a w K Q else K (a.put Ni undef) w)
    (h2 : ∀ K : Act → World → Prop, Shut (∀ a' w', wpAnyLast P md ops Q S ds fuel (l.setIfInBounds j true) a' w' → K a' w') → if Region.wanted oj (yielded ops a.tmps) = true then Oper.wp P oj a w K Q else K (a.put Nj undef) w) :
    wpAnyLast P md ops Q S ds (fuel + 1) l a w := by
  subst hNi
  subst hNj
  have hc' := eq_of_beq hc
  exact wpAnyLast_ready hc' (by simp) (AllReadyL.cons_last hi hdi (fun K hK => h1 K hK) (AllReadyL.cons_last hj hdj (fun K hK => h2 K hK) AllReadyL.nil))
end
theorem setCell_comm (w : World) (b c i j : Nat) (u v : Value) (h : b ≠ c) : (w.setCell ⟨b, i, none⟩ u).setCell ⟨c, j, none⟩ v = (w.setCell ⟨c, j, none⟩ v).setCell ⟨b, i, none⟩ u := by
  unfold World.setCell
  congr 1
  apply Array.ext
  · simp
  · intro k h1 h2
    simp only [Array.getElem_modify]
    by_cases hb : b = k
    · by_cases hcq : c = k
      · exact absurd (hb.trans hcq.symm) h
      · simp [hb, hcq]
    · by_cases hcq : c = k
      · simp [hb, hcq]
      · simp [hb, hcq]
def endC (name : ByteArray) (pos : Int) (ns : List Nd) (l : List Tk) : Option Res := some (.ok ⟨9, name, ns, pos⟩ l)
def NamedInv (part : List Tk → Option Res) (name : ByteArray) (pos : Int) (R : Res) (g T : Nat) (d : Int) (w : World) (a bn k : Nat) (kq : Nat) (v4 v5 : Value) (w' : World) : Prop :=
  ∃ ks A c t r b4 u, v4 = .pointer (some ⟨b4, 0, none⟩) ∧ v5 = .bool (isIt [sComma] t) ∧ argsL part kq (ks.map (·.1)) (t :: r) (endC name pos) = some R ∧ w'.heap[bn]? = some (.cells (callCs name pos (.slice A ks.length c)) 58 (0, 0)) ∧
    w'.heap[a]? = some (.cells #[.pointer (some ⟨g, 0, none⟩)] 82 (0, 0)) ∧ w'.heap[b4]? = some (.cells (tkCs u) 87 (0, 0)) ∧ Kids w.heap.size w' (.slice A ks.length c) ks ∧ Rd g T w' (if isIt [sComma] t = true then r else t :: r) d ∧
    Kept (fun k => k = g ∨ k = bn) w w' ∧ w.heap.size < w'.heap.size ∧ w.heap.size ≤ b4 ∧ ks.length + kq ≤ k + 1
theorem args_rest {part : List Tk → Option Res} {f : List Nd → List Tk → Option Res} {k : Nat} {ns : List Nd} {t : Tk} {r : List Tk} {R : Res} (h : argsL part k ns (t :: r) f = some R) (hi : isIt [sComma] t = true) : r ≠ [] := by
  cases k with
  | zero => cases h
  | succ k =>
    rw [argsL, if_pos hi] at h
    intro hr
    subst hr
    cases h
set_option maxHeartbeats 1000000 in
set_option maxRecDepth 100000 in
theorem named1_calls (g T : Nat) (d : Int) (part : List Tk → Option Res) (hp : PartC g T d part 41) (a bn : Nat) (l : List Tk) (R : Res) (w : World) (k : Nat) (name : ByteArray) (pos : Int) (hk : k ≤ 1000000) (hl : l ≠ []) (hR : Rd g T w l d)
    (haB : w.heap[a]? = some (.cells #[.pointer (some ⟨g, 0, none⟩)] 82 (0, 0))) (hbn : w.heap[bn]? = some (.cells (callCs name pos (.slice none 0 0)) 58 (0, 0))) (hng : bn ≠ g) (hnT : bn ≠ T) (han : a ≠ bn) (hag : a ≠ g) (h : argsP part k l (endC name pos) = some R) :
    Calls Tryd.prog 94 #[.pointer (some ⟨a, 0, none⟩), .pointer (some ⟨bn, 0, none⟩)] w (PostIn g T bn d w R) := by
  cases l with
  | nil => exact absurd rfl hl
  | cons t r =>
  have hg := hR.lt
  have hT := hR.Tlt hl
  have hg1 : ∀ k, g < w.heap.size + k := fun k => by omega
  have HP := Aside0.mk hp
  have HR := Aside0.mk hR
  have HA := Aside0.mk haB
  have HB := Aside0.mk hbn
  have hal := blk_lt haB
  have hbl := blk_lt hbn
  have qa := blk_cell haB 0
  clear hp hR haB hbn
  have hr : isIt [sShut] t = true → r ≠ [] := fun q hr => by
    subst hr
    simp only [argsP] at h
    rw [if_pos q] at h
    cases h
  have H := Aside0.mk h
  clear h
  go_enter Tryd.func94, Tryd.ntmps94
  go_wp2_with (fail)
  have hS := strs_new w [sShut] #[.string sShut] rfl (by decide)
  refine (is_calls g T _ t r d _ _ [sShut] (HR.out.alloc _) hS (by decide) (by decide) hr).mono ?_
  rintro e w1 ⟨rfl, hR1, hK1⟩
  have hs1 := hK1.size
  simp at hs1
  have Z0 := Aside0.mk (hK1.blk (blk_alloc HA.out _) (by omega))
  have Z1 := Aside0.mk (hK1.blk (blk_alloc HB.out _) (by omega))
  have hKw1 := Aside0.mk (Kept.trans (S := fun k => k = g) (a := w) (by (repeat' (first | (with_reducible exact Kept.refl _ _) | (with_reducible assumption) | (with_reducible apply Kept.alloc) | (with_reducible apply Kept.drew) | (with_reducible apply Kept.drewN) | (with_reducible refine Kept.setCell ?_ _ _ _ ?_) | (with_reducible exact Or.inl rfl) | (left; assumption) | (right; simp; done) | (right; omega)))) hK1 (fun _ _ h => h))
  have hR1' := Aside0.mk hR1
  clear hK1 hR1 hS qa
  unfold tokV
  cases hi : isIt [sShut] t with
  | true =>
    have hh := H.out
    simp only [argsP] at hh
    rw [if_pos hi, if_neg (by simpa using hr hi)] at hh
    obtain rfl := Option.some.inj (show some (Res.ok ⟨9, name, [], pos⟩ r) = some R from hh)
    go_wp2_with (fail)
    have hRo := hR1'.out
    rw [hi, if_pos rfl] at hRo
    refine bodyPost_ret (results_none rfl _ _ _) rfl ?_
    refine ⟨rfl, none, 0, blk_alloc Z1.out _, NdS.zero _ _ _ _ _, hr hi, hRo.alloc _, (hKw1.out.alloc _).mono (fun _ _ q => Or.inl q)⟩
  | false =>
    have hh := H.out
    simp only [argsP] at hh
    rw [if_neg (by rw [hi]; simp)] at hh
    have hRo := hR1'.out
    rw [hi, if_neg (by simp)] at hRo
    go_wp2_with (fail)
    have hHr := Aside0.mk (hRo.alloc (.cells (tkCs t) 87))
    obtain ⟨ws, hws⟩ : ∃ ws, ws = w1.alloc (.cells (tkCs t) 87) := ⟨_, rfl⟩
    obtain ⟨A0, c0, ks, hks, hBn, hKd⟩ : ∃ A0 c0 ks, ks = [] ∧ ws.heap[bn]? = some (.cells (callCs name pos (.slice A0 ks.length c0)) 58 (0, 0)) ∧ Kids w.heap.size ws (.slice A0 ks.length c0) ks :=
      ⟨none, 0, [], rfl, by rw [hws]; exact blk_alloc Z1.out _, Kids.nil _ _⟩
    have HBn := Aside0.mk hBn
    have HKd := Aside0.mk hKd
    have HAn := Aside0.mk (show ws.heap[a]? = some (.cells #[.pointer (some ⟨g, 0, none⟩)] 82 (0, 0)) by rw [hws]; exact blk_alloc Z0.out (.cells (tkCs t) 87))
    have HRs := Aside0.mk (show Rd g T ws (t :: r) d by rw [hws]; exact hHr.out)
    have HKs := Aside0.mk (show Kept (fun k => k = g ∨ k = bn) w ws by rw [hws]; exact (hKw1.out.alloc _).mono (fun _ _ q => Or.inl q))
    have hsz : w.heap.size < ws.heap.size := by rw [hws]; (first | (simp; done) | (simp; omega) | omega)
    rw [show (w1.alloc (.cells #[.int .i64 t.f0, .string t.f1, .int .i64 t.f2] 87)) = ws from hws.symm]
    clear hBn hKd hHr hRo hws Z0 Z1 hKw1 hR1'
    obtain ⟨r2, hr2, hh⟩ := Option.bind_eq_some_iff.mp hh
    have hks' := Aside0.mk hks
    clear hks
    have hqb := blk_cell HBn.out 2
    have hqa := blk_cell HAn.out 0
    refine start_ (n := 11) (S := fun w' => w'.cell? ⟨bn, 2, none⟩ = some (.slice A0 ks.length c0) ∧ w'.cell? ⟨a, 0, none⟩ = some (.pointer (some ⟨g, 0, none⟩)))
      (ds := [8, 10]) #[false, false, false, false, false, false, false, false, false, false, false] (by kernel_rfl) rfl rfl ⟨hqb.trans rfl, hqa.trans rfl⟩ (fun hHeld => ?_)
    ((refine rpure (i := 0) (N := some 13) (v := ?_) (a' := ?_) rfl rfl (by kernel_rfl) (fun _ _ _ h => h) (Or.inl ⟨by rfl, ?_⟩) ?_ ?_); rotate_left; (· intro w'; go_simp; with_reducible rfl); rotate_left; (· (simp only [Act.put, List.setIfInBounds_toArray, List.set_cons_zero, List.set_cons_succ, i64_w, i32_w]; rfl)))
    ((refine rtake (i := 1) (N := some 14) (v := ?_) (a' := ?_) rfl rfl (by kernel_rfl) (fun _ _ _ h => h) (Or.inl ⟨by rfl, ?_⟩) hHeld ?_ ?_); rotate_left; (· rintro w' ⟨s0, s1⟩; go_simp; with_reducible rfl); rotate_left; (· (simp only [Act.put, List.setIfInBounds_toArray, List.set_cons_zero, List.set_cons_succ, i64_w, i32_w]; rfl)))
    ((refine rtake (i := 2) (N := some 15) (v := ?_) (a' := ?_) rfl rfl (by kernel_rfl) (fun _ _ _ h => h) (Or.inl ⟨by rfl, ?_⟩) hHeld ?_ ?_); rotate_left; (· rintro w' ⟨s0, s1⟩; go_simp; with_reducible rfl); rotate_left; (· (simp only [Act.put, List.setIfInBounds_toArray, List.set_cons_zero, List.set_cons_succ, i64_w, i32_w]; rfl)))
    ((refine rpure (i := 4) (N := some 17) (v := ?_) (a' := ?_) rfl rfl (by kernel_rfl) (fun _ _ _ h => h) (Or.inl ⟨by rfl, ?_⟩) ?_ ?_); rotate_left; (· intro w'; go_simp; with_reducible rfl); rotate_left; (· (simp only [Act.put, List.setIfInBounds_toArray, List.set_cons_zero, List.set_cons_succ, i64_w, i32_w]; rfl)))
    have hc2 := HP.out ws.drew (t :: r) r2 (by simp) HRs.out.drew hr2
    have hc3 := HP.out (ws.drew.alloc (.cells zeroNd 58)) (t :: r) r2 (by simp) (HRs.out.drew.alloc _) hr2
    cases r2 with
    | bad why pos2 =>
      obtain rfl := Option.some.inj (show some (Res.bad why pos2) = some R from hh)
      refine rtwo (i := 3) (j := 5) (Ni := some 16) (Nj := some 18) rfl rfl rfl rfl (by kernel_rfl) (by decide) (by decide) (fun K hK => ?_) (fun K hK => ?_)
      · refine rcall 41 #[.pointer (some ⟨g, 0, none⟩)] (by rfl) rfl (by go_simp) ?_
        refine hc2.mono ?_
        intro e w3 hp
        obtain ⟨rfl, hK3⟩ := Post.bad_ hp
        refine Or.inr ⟨_, rfl, rfl, rfl, ?_⟩
        exact Kept.trans HKs.out.drew hK3 (fun _ _ q => Or.inl q)
      · rw [if_pos (by rfl)]
        unfold Oper.wp
        go_simp
        refine hK _ _ ⟨(blk_cell (blk_alloc (show ws.drew.heap[bn]? = _ from HBn.out) _) 2).trans rfl, (blk_cell (blk_alloc (show ws.drew.heap[a]? = _ from HAn.out) _) 0).trans rfl⟩ (fun hHeld => ?_)
        clear hK K
        refine rone (i := 3) (N := some 16) rfl rfl (by kernel_rfl) (by decide) (fun K hK => ?_)
        refine rcall 41 #[.pointer (some ⟨g, 0, none⟩)] (by rfl) rfl (by go_simp) ?_
        refine hc3.mono ?_
        intro e w3 hp
        obtain ⟨rfl, hK3⟩ := Post.bad_ hp
        refine Or.inr ⟨_, rfl, rfl, rfl, ?_⟩
        exact Kept.trans (HKs.out.drew.alloc _) hK3 (fun _ _ q => Or.inl q)
    | ok m l3 =>
      replace hh : argsL part k [m] l3 (endC name pos) = some R := hh
      refine join_ (σ := Option Addr × Nat × Nat) 5 #[true, true, true, true, true, true, false, false, false, false, false] (fun s => [(16, ndV m s.1 s.2.1), (18, .slice (some ⟨s.2.2, 0, none⟩) 1 1)])
        (fun s w' => w'.heap[s.2.2]? = some (.cells zeroNd 58 (0, 0)) ∧ NdS (fun j => j < ws.heap.size) w' m s.1 s.2.1 ∧ l3 ≠ [] ∧ Rd g T w' l3 d ∧ Kept (fun k => k = g) ws w' ∧ ws.heap.size ≤ s.2.2) ?cont ?orders
      case orders =>
        intro hcont
        refine rtwo (i := 3) (j := 5) (Ni := some 16) (Nj := some 18) rfl rfl rfl rfl (by kernel_rfl) (by decide) (by decide) (fun K hK => ?_) (fun K hK => ?_)
        · refine rcall 41 #[.pointer (some ⟨g, 0, none⟩)] (by rfl) rfl (by go_simp) ?_
          refine hc2.mono ?_
          intro e w3 hp
          obtain ⟨A1, c1, rfl, hM, hl3, hR3, hK3⟩ := Post.ok_ hp
          refine Or.inl ⟨_, rfl, hK _ _ ⟨(blk_cell (hK3.blk (show ws.drew.heap[bn]? = _ from HBn.out) hng) 2).trans rfl, (blk_cell (hK3.blk (show ws.drew.heap[a]? = _ from HAn.out) hag) 0).trans rfl⟩ (fun hHeld => ?_)⟩
          clear hK K hp hc2 hc3
          refine rone (i := 5) (N := some 18) rfl rfl (by kernel_rfl) (by decide) (fun K hK => ?_)
          rw [if_pos (by rfl)]
          unfold Oper.wp
          unfold ndV
          go_simp
          have hs3 := hK3.size
          rw [show ws.drew.heap.size = ws.heap.size from rfl] at hs3
          refine hK _ _ ⟨(blk_cell (blk_alloc (hK3.blk (show ws.drew.heap[bn]? = _ from HBn.out) hng) _) 2).trans rfl, (blk_cell (blk_alloc (hK3.blk (show ws.drew.heap[a]? = _ from HAn.out) hag) _) 0).trans rfl⟩ (fun hHeld => ?_)
          have hcc := hcont (A1, c1, w3.heap.size) (w3.alloc (.cells zeroNd 58)) ⟨heap_alloc_new _ _, hM.kept (S' := fun j => j < ws.heap.size) (T := fun _ => False) ((Kept.refl _ w3).alloc _) (fun _ _ q => q.elim) (fun _ _ q => q), hl3, hR3.alloc _, Kept.trans (S := fun k => k = g) ((Kept.refl _ ws).drew) (hK3.alloc _) (fun _ _ q => q), hs3⟩
          exact norm_ (by rfl) hcc
        · rw [if_pos (by rfl)]
          unfold Oper.wp
          go_simp
          refine hK _ _ ⟨(blk_cell (blk_alloc (show ws.drew.heap[bn]? = _ from HBn.out) _) 2).trans rfl, (blk_cell (blk_alloc (show ws.drew.heap[a]? = _ from HAn.out) _) 0).trans rfl⟩ (fun hHeld => ?_)
          clear hK K
          refine rone (i := 3) (N := some 16) rfl rfl (by kernel_rfl) (by decide) (fun K hK => ?_)
          refine rcall 41 #[.pointer (some ⟨g, 0, none⟩)] (by rfl) rfl (by go_simp) ?_
          refine hc3.mono ?_
          intro e w3 hp
          obtain ⟨A1, c1, rfl, hM, hl3, hR3, hK3⟩ := Post.ok_ hp
          refine Or.inl ⟨_, rfl, hK _ _ ⟨(blk_cell (hK3.blk (blk_alloc (show ws.drew.heap[bn]? = _ from HBn.out) _) hng) 2).trans rfl, (blk_cell (hK3.blk (blk_alloc (show ws.drew.heap[a]? = _ from HAn.out) _) hag) 0).trans rfl⟩ (fun hHeld => ?_)⟩
          clear hK K hp hc2
          have hs3 := hK3.size
          have hglt := HRs.out.lt
          have hcc := hcont (A1, c1, ws.heap.size) w3 ⟨hK3.blk (heap_alloc_new ws.drew _) (by show ws.heap.size ≠ g; omega), hM.kept (S' := fun j => j < ws.heap.size) (T := fun _ => False) (Kept.refl _ w3) (fun _ _ q => q.elim) (fun j _ q => by have q' : j < ws.heap.size := q; show j < _; simp; omega), hl3, hR3, Kept.trans (S := fun k => k = g) ((Kept.refl _ ws).drew.alloc _) hK3 (fun _ _ q => q), Nat.le_refl _⟩
          exact norm_ (by rfl) hcc
      case cont =>
        rintro ⟨A1, c1, z⟩ w3 ⟨hz, hM, hl3, hR3, hK3, hzl⟩
        refine norm_ (by simp only [putAll]; (simp only [Act.put, List.setIfInBounds_toArray, List.set_cons_zero, List.set_cons_succ, i64_w, i32_w]; rfl)) ?_
        have hs3 := hK3.size
        have hlen : ks.length ≤ 1000000 := by rw [hks'.out]; decide
        have HK3 := HKd.out.kept (w' := w3) (T := fun k => k = g) hK3 (fun j _ q => by have q' : j = g := q; omega)
        have hMk := hM.kept (S' := fun j => j < w.heap.size ∨ some j = (Value.slice A0 ks.length c0).ownBlock) (T := fun _ => False) (Kept.refl _ w3) (fun _ _ q => q.elim) (fun j _ q => by
          rcases q with q | q
          · exact Nat.lt_trans q hsz
          · obtain ⟨_, _, -, -, hbl⟩ := HKd.out.form
            exact (hbl j q.symm).2)
        refine rone (i := 6) (N := some 19) rfl rfl (by kernel_rfl) (by decide) (fun K hK => ?_)
        obtain ⟨i0, hi0, hz0, hz1, hz2⟩ := info_parts infoNd
        refine step_append_lies w3 (by rfl) _ _ _ (by rfl) w.heap.size 58 i0 _ 4 56 Tryd.underlying56 hi0 hz0 hz1 hz2 rfl (by omega) (.slice A0 ks.length c0) ks.length (flat ks) (by rfl) HK3.1 ⟨z, 0, none⟩ 1 1 (zeroNd).toList (by rfl) (by rfl) (World.news_of_block hz) (by simp [Value.oneCell']) (by omega) (by unfold maxLen; omega) (by omega) (by omega) w3.heap.size rfl ?_
        intro gb cb w4 ho4 hgr4 hat4 hlt4
        obtain ⟨_, _, -, -, hblk⟩ := HK3.form
        have hgK := grown_kept hgr4
        have hnrow : ∀ (j : Nat) (cs : Array Value) (ty : TypeId), w3.heap[j]? = some (.cells cs ty (0, 0)) → ty ≠ 58 → some j ≠ (Value.slice A0 ks.length c0).ownBlock := fun j cs ty hj hty q => by
          rcases HK3.1.2 with ⟨q1, q2⟩ | ⟨g', cap', cur', q1, q2, q3, q4⟩
          · rw [q1] at q
            simp [Value.ownBlock] at q
          · rw [q1] at q
            have q' : j = g' := by simpa [Value.ownBlock] using q
            subst q'
            rw [hj] at q3
            injection q3 with q3
            injection q3 with q3 q5
            exact hty q5
        have hlow : ∀ j, j < w.heap.size → some j ≠ (Value.slice A0 ks.length c0).ownBlock := fun j hj q => by
          have := (hblk j q.symm).1
          omega
        have hgbw : w.heap.size ≤ gb := by
          rcases hat4 with q | q
          · exact (hblk gb q).1
          · omega
        have HB4 := Aside0.mk (hgK.blk (hK3.blk HBn.out hng) (hlow bn hbl))
        have HA4 := Aside0.mk (hgK.blk (hK3.blk HAn.out hag) (hlow a hal))
        have HR4 := Aside0.mk (hR3.kept hl3 hgK (hlow g hg) (hlow T hT))
        have HKw4 := Aside0.mk (show Kept (fun k => k = g ∨ k = bn) w w4 from Kept.trans (Kept.trans HKs.out hK3 (fun _ _ q => Or.inl q)) hgK (fun j hj q => absurd q (hlow j hj)))
        have HPush := Aside0.mk (HK3.push (w1 := w4) (by omega) rfl ho4 hgr4 hat4 hMk)
        have c4 := ho4.cellAt
        have f4 := ho4.frozenAt
        have qb4 := blk_cell HB4.out 2
        have fb4 := blk_frozen HB4.out 2
        simp only [callCs] at qb4
        have z40 : w4.cell? ⟨gb, ks.length * 4, none⟩ = some (.int .i64 0) := by rw [c4 _ (by omega), List.getElem?_append_right (by rw [flat_length]; omega), flat_length, show ks.length * 4 - ks.length * 4 = 0 by omega]; rfl
        have z41 : w4.cell? ⟨gb, ks.length * 4 + 1, none⟩ = some (.string ⟨#[]⟩) := by rw [c4 _ (by omega), List.getElem?_append_right (by rw [flat_length]; omega), flat_length, show ks.length * 4 + 1 - ks.length * 4 = 1 by omega]; rfl
        have z42 : w4.cell? ⟨gb, ks.length * 4 + 2, none⟩ = some (.slice none 0 0) := by rw [c4 _ (by omega), List.getElem?_append_right (by rw [flat_length]; omega), flat_length, show ks.length * 4 + 2 - ks.length * 4 = 2 by omega]; rfl
        have z43 : w4.cell? ⟨gb, ks.length * 4 + 3, none⟩ = some (.int .i64 0) := by rw [c4 _ (by omega), List.getElem?_append_right (by rw [flat_length]; omega), flat_length, show ks.length * 4 + 3 - ks.length * 4 = 3 by omega]; rfl
        clear c4
        have hlq : (0 : Int) ≤ (ks.length : Int) := by omega
        have hlq2 : (ks.length : Int) < (ks.length : Int) + 1 := by omega
        refine hK _ _ ⟨qb4.trans rfl, (blk_cell HA4.out 0).trans rfl⟩ (fun hHeld => ?_)
        clear hK K
        refine norm_ (show _ = Act.put _ (some 19) (.slice (some ⟨gb, 0, none⟩) (ks.length + 1) cb) from rfl) ?_
        refine norm_ (by (simp only [Act.put, List.setIfInBounds_toArray, List.set_cons_zero, List.set_cons_succ, i64_w, i32_w]; rfl)) ?_
        ((refine rpure (i := 7) (N := some 20) (v := ?_) (a' := ?_) rfl rfl (by kernel_rfl) (fun _ _ _ h => h) (Or.inl ⟨by rfl, ?_⟩) ?_ ?_); rotate_left; (· intro w'; go_simp; with_reducible rfl); rotate_left; (· (simp only [Act.put, List.setIfInBounds_toArray, List.set_cons_zero, List.set_cons_succ, i64_w, i32_w]; rfl)))
        ((refine rpure (i := 9) (N := some 21) (v := ?_) (a' := ?_) rfl rfl (by kernel_rfl) (fun _ _ _ h => h) (Or.inl ⟨by rfl, ?_⟩) ?_ ?_); rotate_left; (· intro w'; go_simp; with_reducible rfl); rotate_left; (· (simp only [Act.put, List.setIfInBounds_toArray, List.set_cons_zero, List.set_cons_succ, i64_w, i32_w]; rfl)))
        have hne : gb ≠ bn := by omega
        have hne' : bn ≠ gb := by omega
        have hng' : gb ≠ g := by omega
        have hga : gb ≠ a := by omega
        refine join_ (σ := Unit) 0 #[true, true, true, true, true, true, true, true, true, true, true] (fun _ => []) (fun _ w' => w' = (((((w4.setCell ⟨gb, ks.length * 4, none⟩ (.int .i64 m.f0)).setCell ⟨gb, ks.length * 4 + 1, none⟩ (.string m.f1)).setCell ⟨gb, ks.length * 4 + 2, none⟩ (.slice A1 m.f2.length c1)).setCell ⟨gb, ks.length * 4 + 3, none⟩ (.int .i64 m.f3)).setCell ⟨bn, 2, none⟩ (.slice (some ⟨gb, 0, none⟩) (ks.length + 1) cb))) ?cont2 ?orders2
        case orders2 =>
          intro hcont
          refine rtwoL (i := 8) (j := 10) rfl rfl rfl rfl (by kernel_rfl) (by decide) (by decide) (fun K hK => ?_) (fun K hK => ?_)
          · rw [if_pos (by rfl)]
            unfold Oper.wp
            unfold ndV
            go_simp
            refine hK _ _ ?_
            have hb5 := blk_setO (v := .int .i64 m.f3) (i := ks.length * 4 + 3) (blk_setO (v := .slice A1 m.f2.length c1) (i := ks.length * 4 + 2) (blk_setO (v := .string m.f1) (i := ks.length * 4 + 1) (blk_setO (v := .int .i64 m.f0) (i := ks.length * 4) HB4.out hne') hne') hne') hne'
            have qb5 := blk_cell hb5 2
            have fb5 := blk_frozen hb5 2
            simp only [callCs] at qb5
            refine rlast (i := 10) (N := none) rfl rfl (by kernel_rfl) (by decide) (fun K2 hK2 => ?_)
            rw [if_pos (by rfl)]
            unfold Oper.wp
            go_simp
            refine hK2 _ _ ?_
            exact norm_ (by rfl) (hcont () _ rfl)
          · rw [if_pos (by rfl)]
            unfold Oper.wp
            go_simp
            refine hK _ _ ?_
            have hcl : ∀ i, (w4.setCell ⟨bn, 2, none⟩ (.slice (some ⟨gb, 0, none⟩) (ks.length + 1) cb)).cell? ⟨gb, i, none⟩ = w4.cell? ⟨gb, i, none⟩ := fun i => World.cell?_of_block (Below.heap_setCell w4 ⟨bn, 2, none⟩ _ gb hne)
            have hfl : ∀ i, (w4.setCell ⟨bn, 2, none⟩ (.slice (some ⟨gb, 0, none⟩) (ks.length + 1) cb)).frozen? ⟨gb, i, none⟩ = false := fun i => (World.frozen?_of_block (Below.heap_setCell w4 ⟨bn, 2, none⟩ _ gb hne)).trans (f4 i)
            have x40 := (hcl _).trans z40
            have x41 := (hcl _).trans z41
            have x42 := (hcl _).trans z42
            have x43 := (hcl _).trans z43
            clear hcl
            refine rlast (i := 8) (N := none) rfl rfl (by kernel_rfl) (by decide) (fun K2 hK2 => ?_)
            rw [if_pos (by rfl)]
            unfold Oper.wp
            unfold ndV
            go_simp
            refine hK2 _ _ ?_
            refine norm_ (by rfl) (hcont () _ ?_)
            rw [setCell_comm _ bn gb _ _ _ _ hne', setCell_comm _ bn gb _ _ _ _ hne', setCell_comm _ bn gb _ _ _ _ hne', setCell_comm _ bn gb _ _ _ _ hne']
        case cont2 =>
          rintro ⟨⟩ wz hwz
          refine done_ (by kernel_rfl) ?_
          have hzB := Aside0.mk (show wz.heap[bn]? = some (.cells (callCs name pos (.slice (some ⟨gb, 0, none⟩) (ks.length + 1) cb)) 58 (0, 0)) by rw [hwz]; exact blk_set (blk_setO (blk_setO (blk_setO (blk_setO HB4.out hne') hne') hne') hne') 2 _)
          have hzA := Aside0.mk (show wz.heap[a]? = some (.cells #[.pointer (some ⟨g, 0, none⟩)] 82 (0, 0)) by rw [hwz]; exact blk_setO (blk_setO (blk_setO (blk_setO (blk_setO HA4.out hga.symm) hga.symm) hga.symm) hga.symm) han)
          have hzK := Aside0.mk (show Kids w.heap.size wz (.slice (some ⟨gb, 0, none⟩) (ks.length + 1) cb) (ks ++ [(m, A1, c1)]) by rw [hwz]; exact HPush.out.kept (T := fun k => k = bn) (by (repeat' (first | (with_reducible exact Kept.refl _ _) | (with_reducible assumption) | (with_reducible apply Kept.alloc) | (with_reducible apply Kept.drew) | (with_reducible apply Kept.drewN) | (with_reducible refine Kept.setCell ?_ _ _ _ ?_) | (with_reducible exact Or.inl rfl) | (left; assumption) | (right; simp; done) | (right; omega)))) (fun j _ q => by have q' : j = bn := q; omega))
          have HR4o := HR4.out
          have hzR := Aside0.mk (show Rd g T wz l3 d by rw [hwz]; (repeat' (first | (with_reducible assumption) | (with_reducible apply Rd.alloc) | (with_reducible apply Rd.drew) | (with_reducible apply Rd.drewN) | (with_reducible refine Rd.setO ?_ _ _ _ (by (first | (simp; done) | (simp; omega) | omega)) (by (first | (simp; done) | (simp; omega) | omega))))))
          have HKw4o := HKw4.out
          have hzW := Aside0.mk (show Kept (fun k => k = g ∨ k = bn) w wz by
            rw [hwz]
            refine Kept.setCell ?_ _ _ _ (Or.inl (Or.inr rfl))
            (repeat' (first | (with_reducible exact Kept.refl _ _) | (with_reducible assumption) | (with_reducible apply Kept.alloc) | (with_reducible apply Kept.drew) | (with_reducible apply Kept.drewN) | (with_reducible refine Kept.setCell ?_ _ _ _ ?_) | (with_reducible exact Or.inl rfl) | (left; assumption) | (right; simp; done) | (right; omega))))
          have hzs : w.heap.size < wz.heap.size := by have := HKw4o.size; rw [hwz]; simp; omega
          have HH := Aside0.mk (show argsL part k ((ks ++ [(m, A1, c1)]).map (·.1)) l3 (endC name pos) = some R by rw [hks'.out]; exact hh)
          have hbd : (ks ++ [(m, A1, c1)]).length + k ≤ k + 1 := by rw [hks'.out]; simp; omega
          have hzK' := Aside0.mk (show Kids w.heap.size wz (.slice (some ⟨gb, 0, none⟩) (ks ++ [(m, A1, c1)]).length cb) (ks ++ [(m, A1, c1)]) by rw [List.length_append]; exact hzK.out)
          have hzB' := Aside0.mk (show wz.heap[bn]? = some (.cells (callCs name pos (.slice (some ⟨gb, 0, none⟩) (ks ++ [(m, A1, c1)]).length cb)) 58 (0, 0)) by rw [List.length_append]; exact hzB.out)
          clear hwz HA4 HB4 HR4 HKw4 HPush HR4o HKw4o HK3 hMk z40 z41 z42 z43 f4 qb4 fb4 hM hR3 hK3 hz ho4 hgr4 hgK hnrow hlow hat4 hHeld hqb hqa HBn HKd HAn HRs HKs hc2 hc3 hh hr2 hzB hzK
          have qza := blk_cell hzA.out 0
          cases l3 with
          | nil => exact absurd rfl hl3
          | cons t3 r3 =>
            have hr3 : isIt [sComma] t3 = true → r3 ≠ [] := fun q => args_rest HH.out q
            unfold ndV
            simp only [putAll]
            go_wp2_with (fail)
            have hS3 := strs_new wz [sComma] #[.string sComma] rfl (by decide)
            refine (is_calls g T _ t3 r3 d _ _ [sComma] (hzR.out.alloc _) hS3 (by decide) (by decide) hr3).mono ?_
            rintro e w6 ⟨rfl, hR6, hK6⟩
            have hs6 := hK6.size
            simp at hs6
            have Y0 := Aside0.mk (hK6.blk (blk_alloc hzA.out _) hag)
            have Y1 := Aside0.mk (hK6.blk (blk_alloc hzB'.out _) hng)
            have YK := Aside0.mk (hzK'.out.kept (T := fun k => k = g) (Kept.trans (S := fun k => k = g) ((Kept.refl _ wz).alloc _) hK6 (fun _ _ q => q)) (fun j _ q => by have q' : j = g := q; omega))
            have YW := Aside0.mk (Kept.trans (hzW.out.alloc _) hK6 (fun _ _ q => Or.inl q))
            have YR := Aside0.mk hR6
            clear hK6 hR6 hS3 qza hzA hzB' hzK' hzW hzR
            unfold tokV
            go_wp2_with (fail)
            go_loopg [4, 5] k (fun kq v4 v5 w' => Aside0 (NamedInv part name pos R g T d w a bn k kq v4 v5 w'))
            case atStart =>
              exact ⟨ks ++ [(m, A1, c1)], _, _, t3, r3, w6.heap.size, t3, rfl, rfl, HH.out, blk_alloc Y1.out _, blk_alloc Y0.out _, heap_alloc_new w6 _, YK.out.kept (T := fun _ => False) ((Kept.refl _ w6).alloc _) (fun _ _ q => q.elim), YR.out.alloc _, YW.out.alloc _, by simp; omega, by omega, hbd⟩
            case round =>
              clear Y0 Y1 YK YW YR HH
              obtain ⟨ks, A0, c0, t, r, b4, u, rfl, rfl, hrow, hB, hA, h4, hK, hR', hW, hsz', hb4, hbd2⟩ := hrel.out
              have HBn := Aside0.mk hB
              have HAn := Aside0.mk hA
              have HKd := Aside0.mk hK
              have HKs := Aside0.mk hW
              have H4 := Aside0.mk h4
              have qaz := blk_cell hA 0
              clear hB hA hK hW h4
              cases hi : isIt [sComma] t with
              | false =>
                obtain ⟨gk, rfl⟩ : ∃ j, gk = j + 1 := by cases gk with | zero => cases hrow | succ j => exact ⟨j, rfl⟩
                rw [argsL, if_neg (by rw [hi]; simp)] at hrow
                replace hrow : (if isIt [sShut] t = true then (if r.isEmpty = true then none else endC name pos (ks.map (·.1)) r) else some (.bad 30 t.f2)) = some R := hrow
                rw [hi, if_neg (by simp)] at hR'
                have HR' := Aside0.mk hR'
                have HRow := Aside0.mk hrow
                clear hR' hrow hrel
                go_wp2_with (fail)
                cases hs : isIt [sShut] t with
                | false =>
                  have hq := HRow.out
                  rw [if_neg (by rw [hs]; simp)] at hq
                  obtain rfl := Option.some.inj hq
                  refine (want_no g T _ t r d sShut HR'.out hs).mono ?_
                  rintro e w5 ⟨he, hK5⟩
                  unfold Thrown at he
                  subst he
                  exact ⟨rfl, rfl, Kept.trans HKs.out hK5 (fun _ _ q => Or.inl q)⟩
                | true =>
                  have hq := HRow.out
                  rw [if_pos hs] at hq
                  have hr0 : r ≠ [] := by
                    intro q
                    subst q
                    cases hq
                  rw [if_neg (by simpa using hr0)] at hq
                  obtain rfl := Option.some.inj hq
                  refine (want_yes g T _ t r d sShut HR'.out hs hr0).mono ?_
                  rintro e w5 ⟨rfl, hR5, hK5⟩
                  have hB5 := Aside0.mk (hK5.blk HBn.out hng)
                  have hN5 := Aside0.mk ((HKd.out.kept (T := fun k => k = g) hK5 (fun j _ q => by have q' : j = g := q; omega)).node rfl 9 name pos)
                  have hW5 := Aside0.mk (Kept.trans HKs.out hK5 (fun _ _ q => Or.inl q))
                  have hR5' := Aside0.mk hR5
                  clear hR5 hK5
                  go_wp2_with (fail)
                  go_end0
                  refine ⟨rfl, A0, c0, ?_, hN5.out, hr0, hR5'.out, hW5.out⟩
                  have e1 : ndCs ⟨9, name, ks.map (·.1), pos⟩ A0 c0 = callCs name pos (.slice A0 ks.length c0) := by
                    unfold ndCs callCs
                    rw [List.length_map]
                  rw [e1]
                  exact hB5.out
              | true =>
                have hr0 := args_rest hrow hi
                obtain ⟨gk, rfl⟩ : ∃ j, gk = j + 1 := by cases gk with | zero => cases hrow | succ j => exact ⟨j, rfl⟩
                rw [argsL, if_pos hi, if_neg (by simpa using hr0)] at hrow
                obtain ⟨r2, hr2, hh⟩ := Option.bind_eq_some_iff.mp hrow
                rw [hi, if_pos rfl] at hR'
                have HRs := Aside0.mk hR'
                have hsz := hsz'
                have hhh := Aside0.mk hh
                clear hR' hrow hrel hh
                have hh := hhh.out
                clear hhh
                go_wp2_with (fail)
                have hqb := blk_cell HBn.out 2
                have hqa := blk_cell HAn.out 0
                refine start_ (n := 11) (S := fun w' => w'.cell? ⟨bn, 2, none⟩ = some (.slice A0 ks.length c0) ∧ w'.cell? ⟨a, 0, none⟩ = some (.pointer (some ⟨g, 0, none⟩)))
                  (ds := [8, 10]) #[false, false, false, false, false, false, false, false, false, false, false] (by kernel_rfl) rfl rfl ⟨hqb.trans rfl, hqa.trans rfl⟩ (fun hHeld => ?_)
                ((refine rpure (i := 0) (N := some 35) (v := ?_) (a' := ?_) rfl rfl (by kernel_rfl) (fun _ _ _ h => h) (Or.inl ⟨by rfl, ?_⟩) ?_ ?_); rotate_left; (· intro w'; go_simp; with_reducible rfl); rotate_left; (· (simp only [Act.put, List.setIfInBounds_toArray, List.set_cons_zero, List.set_cons_succ, i64_w, i32_w]; rfl)))
                ((refine rtake (i := 1) (N := some 36) (v := ?_) (a' := ?_) rfl rfl (by kernel_rfl) (fun _ _ _ h => h) (Or.inl ⟨by rfl, ?_⟩) hHeld ?_ ?_); rotate_left; (· rintro w' ⟨s0, s1⟩; go_simp; with_reducible rfl); rotate_left; (· (simp only [Act.put, List.setIfInBounds_toArray, List.set_cons_zero, List.set_cons_succ, i64_w, i32_w]; rfl)))
                ((refine rtake (i := 2) (N := some 37) (v := ?_) (a' := ?_) rfl rfl (by kernel_rfl) (fun _ _ _ h => h) (Or.inl ⟨by rfl, ?_⟩) hHeld ?_ ?_); rotate_left; (· rintro w' ⟨s0, s1⟩; go_simp; with_reducible rfl); rotate_left; (· (simp only [Act.put, List.setIfInBounds_toArray, List.set_cons_zero, List.set_cons_succ, i64_w, i32_w]; rfl)))
                ((refine rpure (i := 4) (N := some 39) (v := ?_) (a' := ?_) rfl rfl (by kernel_rfl) (fun _ _ _ h => h) (Or.inl ⟨by rfl, ?_⟩) ?_ ?_); rotate_left; (· intro w'; go_simp; with_reducible rfl); rotate_left; (· (simp only [Act.put, List.setIfInBounds_toArray, List.set_cons_zero, List.set_cons_succ, i64_w, i32_w]; rfl)))
                have hc2 := HP.out wr.drew r r2 hr0 HRs.out.drew hr2
                have hc3 := HP.out (wr.drew.alloc (.cells zeroNd 58)) r r2 hr0 (HRs.out.drew.alloc _) hr2
                cases r2 with
                | bad why pos2 =>
                  obtain rfl := Option.some.inj (show some (Res.bad why pos2) = some R from hh)
                  refine rtwo (i := 3) (j := 5) (Ni := some 38) (Nj := some 40) rfl rfl rfl rfl (by kernel_rfl) (by decide) (by decide) (fun K hK => ?_) (fun K hK => ?_)
                  · refine rcall 41 #[.pointer (some ⟨g, 0, none⟩)] (by rfl) rfl (by go_simp) ?_
                    refine hc2.mono ?_
                    intro e w3 hp
                    obtain ⟨rfl, hK3⟩ := Post.bad_ hp
                    refine Or.inr ⟨_, rfl, rfl, rfl, ?_⟩
                    exact Kept.trans HKs.out.drew hK3 (fun _ _ q => Or.inl q)
                  · rw [if_pos (by rfl)]
                    unfold Oper.wp
                    go_simp
                    refine hK _ _ ⟨(blk_cell (blk_alloc (show wr.drew.heap[bn]? = _ from HBn.out) _) 2).trans rfl, (blk_cell (blk_alloc (show wr.drew.heap[a]? = _ from HAn.out) _) 0).trans rfl⟩ (fun hHeld => ?_)
                    clear hK K
                    refine rone (i := 3) (N := some 38) rfl rfl (by kernel_rfl) (by decide) (fun K hK => ?_)
                    refine rcall 41 #[.pointer (some ⟨g, 0, none⟩)] (by rfl) rfl (by go_simp) ?_
                    refine hc3.mono ?_
                    intro e w3 hp
                    obtain ⟨rfl, hK3⟩ := Post.bad_ hp
                    refine Or.inr ⟨_, rfl, rfl, rfl, ?_⟩
                    exact Kept.trans (HKs.out.drew.alloc _) hK3 (fun _ _ q => Or.inl q)
                | ok m l3 =>
                  replace hh : argsL part gk ((ks.map (·.1)) ++ [m]) l3 (endC name pos) = some R := hh
                  refine join_ (σ := Option Addr × Nat × Nat) 5 #[true, true, true, true, true, true, false, false, false, false, false] (fun s => [(38, ndV m s.1 s.2.1), (40, .slice (some ⟨s.2.2, 0, none⟩) 1 1)])
                    (fun s w' => w'.heap[s.2.2]? = some (.cells zeroNd 58 (0, 0)) ∧ NdS (fun j => j < wr.heap.size) w' m s.1 s.2.1 ∧ l3 ≠ [] ∧ Rd g T w' l3 d ∧ Kept (fun k => k = g) wr w' ∧ wr.heap.size ≤ s.2.2) ?cont ?orders
                  case orders =>
                    intro hcont
                    refine rtwo (i := 3) (j := 5) (Ni := some 38) (Nj := some 40) rfl rfl rfl rfl (by kernel_rfl) (by decide) (by decide) (fun K hK => ?_) (fun K hK => ?_)
                    · refine rcall 41 #[.pointer (some ⟨g, 0, none⟩)] (by rfl) rfl (by go_simp) ?_
                      refine hc2.mono ?_
                      intro e w3 hp
                      obtain ⟨A1, c1, rfl, hM, hl3, hR3, hK3⟩ := Post.ok_ hp
                      refine Or.inl ⟨_, rfl, hK _ _ ⟨(blk_cell (hK3.blk (show wr.drew.heap[bn]? = _ from HBn.out) hng) 2).trans rfl, (blk_cell (hK3.blk (show wr.drew.heap[a]? = _ from HAn.out) hag) 0).trans rfl⟩ (fun hHeld => ?_)⟩
                      clear hK K hp hc2 hc3
                      refine rone (i := 5) (N := some 40) rfl rfl (by kernel_rfl) (by decide) (fun K hK => ?_)
                      rw [if_pos (by rfl)]
                      unfold Oper.wp
                      unfold ndV
                      go_simp
                      have hs3 := hK3.size
                      rw [show wr.drew.heap.size = wr.heap.size from rfl] at hs3
                      refine hK _ _ ⟨(blk_cell (blk_alloc (hK3.blk (show wr.drew.heap[bn]? = _ from HBn.out) hng) _) 2).trans rfl, (blk_cell (blk_alloc (hK3.blk (show wr.drew.heap[a]? = _ from HAn.out) hag) _) 0).trans rfl⟩ (fun hHeld => ?_)
                      have hcc := hcont (A1, c1, w3.heap.size) (w3.alloc (.cells zeroNd 58)) ⟨heap_alloc_new _ _, hM.kept (S' := fun j => j < wr.heap.size) (T := fun _ => False) ((Kept.refl _ w3).alloc _) (fun _ _ q => q.elim) (fun _ _ q => q), hl3, hR3.alloc _, Kept.trans (S := fun k => k = g) ((Kept.refl _ wr).drew) (hK3.alloc _) (fun _ _ q => q), hs3⟩
                      exact norm_ (by rfl) hcc
                    · rw [if_pos (by rfl)]
                      unfold Oper.wp
                      go_simp
                      refine hK _ _ ⟨(blk_cell (blk_alloc (show wr.drew.heap[bn]? = _ from HBn.out) _) 2).trans rfl, (blk_cell (blk_alloc (show wr.drew.heap[a]? = _ from HAn.out) _) 0).trans rfl⟩ (fun hHeld => ?_)
                      clear hK K
                      refine rone (i := 3) (N := some 38) rfl rfl (by kernel_rfl) (by decide) (fun K hK => ?_)
                      refine rcall 41 #[.pointer (some ⟨g, 0, none⟩)] (by rfl) rfl (by go_simp) ?_
                      refine hc3.mono ?_
                      intro e w3 hp
                      obtain ⟨A1, c1, rfl, hM, hl3, hR3, hK3⟩ := Post.ok_ hp
                      refine Or.inl ⟨_, rfl, hK _ _ ⟨(blk_cell (hK3.blk (blk_alloc (show wr.drew.heap[bn]? = _ from HBn.out) _) hng) 2).trans rfl, (blk_cell (hK3.blk (blk_alloc (show wr.drew.heap[a]? = _ from HAn.out) _) hag) 0).trans rfl⟩ (fun hHeld => ?_)⟩
                      clear hK K hp hc2
                      have hs3 := hK3.size
                      have hglt := HRs.out.lt
                      have hcc := hcont (A1, c1, wr.heap.size) w3 ⟨hK3.blk (heap_alloc_new wr.drew _) (by show wr.heap.size ≠ g; omega), hM.kept (S' := fun j => j < wr.heap.size) (T := fun _ => False) (Kept.refl _ w3) (fun _ _ q => q.elim) (fun j _ q => by have q' : j < wr.heap.size := q; show j < _; simp; omega), hl3, hR3, Kept.trans (S := fun k => k = g) ((Kept.refl _ wr).drew.alloc _) hK3 (fun _ _ q => q), Nat.le_refl _⟩
                      exact norm_ (by rfl) hcc
                  case cont =>
                    rintro ⟨A1, c1, z⟩ w3 ⟨hz, hM, hl3, hR3, hK3, hzl⟩
                    refine norm_ (by simp only [putAll]; (simp only [Act.put, List.setIfInBounds_toArray, List.set_cons_zero, List.set_cons_succ, i64_w, i32_w]; rfl)) ?_
                    have hs3 := hK3.size
                    have hlen : ks.length ≤ 1000000 := by omega
                    have HK3 := HKd.out.kept (w' := w3) (T := fun k => k = g) hK3 (fun j _ q => by have q' : j = g := q; omega)
                    have hMk := hM.kept (S' := fun j => j < w.heap.size ∨ some j = (Value.slice A0 ks.length c0).ownBlock) (T := fun _ => False) (Kept.refl _ w3) (fun _ _ q => q.elim) (fun j _ q => by
                      rcases q with q | q
                      · exact Nat.lt_trans q hsz
                      · obtain ⟨_, _, -, -, hbl⟩ := HKd.out.form
                        exact (hbl j q.symm).2)
                    refine rone (i := 6) (N := some 41) rfl rfl (by kernel_rfl) (by decide) (fun K hK => ?_)
                    obtain ⟨i0, hi0, hz0, hz1, hz2⟩ := info_parts infoNd
                    refine step_append_lies w3 (by rfl) _ _ _ (by rfl) w.heap.size 58 i0 _ 4 56 Tryd.underlying56 hi0 hz0 hz1 hz2 rfl (by omega) (.slice A0 ks.length c0) ks.length (flat ks) (by rfl) HK3.1 ⟨z, 0, none⟩ 1 1 (zeroNd).toList (by rfl) (by rfl) (World.news_of_block hz) (by simp [Value.oneCell']) (by omega) (by unfold maxLen; omega) (by omega) (by omega) w3.heap.size rfl ?_
                    intro gb cb w4 ho4 hgr4 hat4 hlt4
                    obtain ⟨_, _, -, -, hblk⟩ := HK3.form
                    have hgK := grown_kept hgr4
                    have hnrow : ∀ (j : Nat) (cs : Array Value) (ty : TypeId), w3.heap[j]? = some (.cells cs ty (0, 0)) → ty ≠ 58 → some j ≠ (Value.slice A0 ks.length c0).ownBlock := fun j cs ty hj hty q => by
                      rcases HK3.1.2 with ⟨q1, q2⟩ | ⟨g', cap', cur', q1, q2, q3, q4⟩
                      · rw [q1] at q
                        simp [Value.ownBlock] at q
                      · rw [q1] at q
                        have q' : j = g' := by simpa [Value.ownBlock] using q
                        subst q'
                        rw [hj] at q3
                        injection q3 with q3
                        injection q3 with q3 q5
                        exact hty q5
                    have hlow : ∀ j, j < w.heap.size → some j ≠ (Value.slice A0 ks.length c0).ownBlock := fun j hj q => by
                      have := (hblk j q.symm).1
                      omega
                    have hgbw : w.heap.size ≤ gb := by
                      rcases hat4 with q | q
                      · exact (hblk gb q).1
                      · omega
                    have HB4 := Aside0.mk (hgK.blk (hK3.blk HBn.out hng) (hlow bn hbl))
                    have HA4 := Aside0.mk (hgK.blk (hK3.blk HAn.out hag) (hlow a hal))
                    have HR4 := Aside0.mk (hR3.kept hl3 hgK (hlow g hg) (hlow T hT))
                    have HKw4 := Aside0.mk (show Kept (fun k => k = g ∨ k = bn) w w4 from Kept.trans (Kept.trans HKs.out hK3 (fun _ _ q => Or.inl q)) hgK (fun j hj q => absurd q (hlow j hj)))
                    have H44 := Aside0.mk (hgK.blk (hK3.blk H4.out (by omega)) (hnrow b4 _ _ (hK3.blk H4.out (by omega)) (by decide)))
                    have hg4 : gb ≠ b4 := by
                      intro q
                      rcases hat4 with q1 | q1
                      · exact hnrow b4 _ _ (hK3.blk H4.out (by omega)) (by decide) (by rw [← q]; exact q1.symm)
                      · have := blk_lt (hK3.blk H4.out (by omega))
                        omega
                    have HPush := Aside0.mk (HK3.push (w1 := w4) (by omega) rfl ho4 hgr4 hat4 hMk)
                    have c4 := ho4.cellAt
                    have f4 := ho4.frozenAt
                    have qb4 := blk_cell HB4.out 2
                    have fb4 := blk_frozen HB4.out 2
                    simp only [callCs] at qb4
                    have z40 : w4.cell? ⟨gb, ks.length * 4, none⟩ = some (.int .i64 0) := by rw [c4 _ (by omega), List.getElem?_append_right (by rw [flat_length]; omega), flat_length, show ks.length * 4 - ks.length * 4 = 0 by omega]; rfl
                    have z41 : w4.cell? ⟨gb, ks.length * 4 + 1, none⟩ = some (.string ⟨#[]⟩) := by rw [c4 _ (by omega), List.getElem?_append_right (by rw [flat_length]; omega), flat_length, show ks.length * 4 + 1 - ks.length * 4 = 1 by omega]; rfl
                    have z42 : w4.cell? ⟨gb, ks.length * 4 + 2, none⟩ = some (.slice none 0 0) := by rw [c4 _ (by omega), List.getElem?_append_right (by rw [flat_length]; omega), flat_length, show ks.length * 4 + 2 - ks.length * 4 = 2 by omega]; rfl
                    have z43 : w4.cell? ⟨gb, ks.length * 4 + 3, none⟩ = some (.int .i64 0) := by rw [c4 _ (by omega), List.getElem?_append_right (by rw [flat_length]; omega), flat_length, show ks.length * 4 + 3 - ks.length * 4 = 3 by omega]; rfl
                    clear c4
                    have hlq : (0 : Int) ≤ (ks.length : Int) := by omega
                    have hlq2 : (ks.length : Int) < (ks.length : Int) + 1 := by omega
                    refine hK _ _ ⟨qb4.trans rfl, (blk_cell HA4.out 0).trans rfl⟩ (fun hHeld => ?_)
                    clear hK K
                    refine norm_ (show _ = Act.put _ (some 41) (.slice (some ⟨gb, 0, none⟩) (ks.length + 1) cb) from rfl) ?_
                    refine norm_ (by (simp only [Act.put, List.setIfInBounds_toArray, List.set_cons_zero, List.set_cons_succ, i64_w, i32_w]; rfl)) ?_
                    ((refine rpure (i := 7) (N := some 42) (v := ?_) (a' := ?_) rfl rfl (by kernel_rfl) (fun _ _ _ h => h) (Or.inl ⟨by rfl, ?_⟩) ?_ ?_); rotate_left; (· intro w'; go_simp; with_reducible rfl); rotate_left; (· (simp only [Act.put, List.setIfInBounds_toArray, List.set_cons_zero, List.set_cons_succ, i64_w, i32_w]; rfl)))
                    ((refine rpure (i := 9) (N := some 43) (v := ?_) (a' := ?_) rfl rfl (by kernel_rfl) (fun _ _ _ h => h) (Or.inl ⟨by rfl, ?_⟩) ?_ ?_); rotate_left; (· intro w'; go_simp; with_reducible rfl); rotate_left; (· (simp only [Act.put, List.setIfInBounds_toArray, List.set_cons_zero, List.set_cons_succ, i64_w, i32_w]; rfl)))
                    have hne : gb ≠ bn := by omega
                    have hne' : bn ≠ gb := by omega
                    have hng' : gb ≠ g := by omega
                    have hga : gb ≠ a := by omega
                    refine join_ (σ := Unit) 0 #[true, true, true, true, true, true, true, true, true, true, true] (fun _ => []) (fun _ w' => w' = (((((w4.setCell ⟨gb, ks.length * 4, none⟩ (.int .i64 m.f0)).setCell ⟨gb, ks.length * 4 + 1, none⟩ (.string m.f1)).setCell ⟨gb, ks.length * 4 + 2, none⟩ (.slice A1 m.f2.length c1)).setCell ⟨gb, ks.length * 4 + 3, none⟩ (.int .i64 m.f3)).setCell ⟨bn, 2, none⟩ (.slice (some ⟨gb, 0, none⟩) (ks.length + 1) cb))) ?cont2 ?orders2
                    case orders2 =>
                      intro hcont
                      refine rtwoL (i := 8) (j := 10) rfl rfl rfl rfl (by kernel_rfl) (by decide) (by decide) (fun K hK => ?_) (fun K hK => ?_)
                      · rw [if_pos (by rfl)]
                        unfold Oper.wp
                        unfold ndV
                        go_simp
                        refine hK _ _ ?_
                        have hb5 := blk_setO (v := .int .i64 m.f3) (i := ks.length * 4 + 3) (blk_setO (v := .slice A1 m.f2.length c1) (i := ks.length * 4 + 2) (blk_setO (v := .string m.f1) (i := ks.length * 4 + 1) (blk_setO (v := .int .i64 m.f0) (i := ks.length * 4) HB4.out hne') hne') hne') hne'
                        have qb5 := blk_cell hb5 2
                        have fb5 := blk_frozen hb5 2
                        simp only [callCs] at qb5
                        refine rlast (i := 10) (N := none) rfl rfl (by kernel_rfl) (by decide) (fun K2 hK2 => ?_)
                        rw [if_pos (by rfl)]
                        unfold Oper.wp
                        go_simp
                        refine hK2 _ _ ?_
                        exact norm_ (by rfl) (hcont () _ rfl)
                      · rw [if_pos (by rfl)]
                        unfold Oper.wp
                        go_simp
                        refine hK _ _ ?_
                        have hcl : ∀ i, (w4.setCell ⟨bn, 2, none⟩ (.slice (some ⟨gb, 0, none⟩) (ks.length + 1) cb)).cell? ⟨gb, i, none⟩ = w4.cell? ⟨gb, i, none⟩ := fun i => World.cell?_of_block (Below.heap_setCell w4 ⟨bn, 2, none⟩ _ gb hne)
                        have hfl : ∀ i, (w4.setCell ⟨bn, 2, none⟩ (.slice (some ⟨gb, 0, none⟩) (ks.length + 1) cb)).frozen? ⟨gb, i, none⟩ = false := fun i => (World.frozen?_of_block (Below.heap_setCell w4 ⟨bn, 2, none⟩ _ gb hne)).trans (f4 i)
                        have x40 := (hcl _).trans z40
                        have x41 := (hcl _).trans z41
                        have x42 := (hcl _).trans z42
                        have x43 := (hcl _).trans z43
                        clear hcl
                        refine rlast (i := 8) (N := none) rfl rfl (by kernel_rfl) (by decide) (fun K2 hK2 => ?_)
                        rw [if_pos (by rfl)]
                        unfold Oper.wp
                        unfold ndV
                        go_simp
                        refine hK2 _ _ ?_
                        refine norm_ (by rfl) (hcont () _ ?_)
                        rw [setCell_comm _ bn gb _ _ _ _ hne', setCell_comm _ bn gb _ _ _ _ hne', setCell_comm _ bn gb _ _ _ _ hne', setCell_comm _ bn gb _ _ _ _ hne']
                    case cont2 =>
                      rintro ⟨⟩ wz hwz
                      refine done_ (by kernel_rfl) ?_
                      have hzB := Aside0.mk (show wz.heap[bn]? = some (.cells (callCs name pos (.slice (some ⟨gb, 0, none⟩) (ks.length + 1) cb)) 58 (0, 0)) by rw [hwz]; exact blk_set (blk_setO (blk_setO (blk_setO (blk_setO HB4.out hne') hne') hne') hne') 2 _)
                      have hzA := Aside0.mk (show wz.heap[a]? = some (.cells #[.pointer (some ⟨g, 0, none⟩)] 82 (0, 0)) by rw [hwz]; exact blk_setO (blk_setO (blk_setO (blk_setO (blk_setO HA4.out hga.symm) hga.symm) hga.symm) hga.symm) han)
                      have hzK := Aside0.mk (show Kids w.heap.size wz (.slice (some ⟨gb, 0, none⟩) (ks.length + 1) cb) (ks ++ [(m, A1, c1)]) by rw [hwz]; exact HPush.out.kept (T := fun k => k = bn) (by (repeat' (first | (with_reducible exact Kept.refl _ _) | (with_reducible assumption) | (with_reducible apply Kept.alloc) | (with_reducible apply Kept.drew) | (with_reducible apply Kept.drewN) | (with_reducible refine Kept.setCell ?_ _ _ _ ?_) | (with_reducible exact Or.inl rfl) | (left; assumption) | (right; simp; done) | (right; omega)))) (fun j _ q => by have q' : j = bn := q; omega))
                      have HR4o := HR4.out
                      have hzR := Aside0.mk (show Rd g T wz l3 d by rw [hwz]; (repeat' (first | (with_reducible assumption) | (with_reducible apply Rd.alloc) | (with_reducible apply Rd.drew) | (with_reducible apply Rd.drewN) | (with_reducible refine Rd.setO ?_ _ _ _ (by (first | (simp; done) | (simp; omega) | omega)) (by (first | (simp; done) | (simp; omega) | omega))))))
                      have HKw4o := HKw4.out
                      have hzW := Aside0.mk (show Kept (fun k => k = g ∨ k = bn) w wz by
                        rw [hwz]
                        refine Kept.setCell ?_ _ _ _ (Or.inl (Or.inr rfl))
                        (repeat' (first | (with_reducible exact Kept.refl _ _) | (with_reducible assumption) | (with_reducible apply Kept.alloc) | (with_reducible apply Kept.drew) | (with_reducible apply Kept.drewN) | (with_reducible refine Kept.setCell ?_ _ _ _ ?_) | (with_reducible exact Or.inl rfl) | (left; assumption) | (right; simp; done) | (right; omega))))
                      have hz4 := Aside0.mk (show wz.heap[b4]? = some (.cells (tkCs u) 87 (0, 0)) by rw [hwz]; exact blk_setO (blk_setO (blk_setO (blk_setO (blk_setO H44.out hg4.symm) hg4.symm) hg4.symm) hg4.symm) (by omega))
                      have hzs : w.heap.size < wz.heap.size := by have := HKw4o.size; rw [hwz]; simp; omega
                      have HH := Aside0.mk (show argsL part gk ((ks ++ [(m, A1, c1)]).map (·.1)) l3 (endC name pos) = some R by simpa using hh)
                      have hbd : (ks ++ [(m, A1, c1)]).length + gk ≤ k + 1 := by simp; omega
                      have hzK' := Aside0.mk (show Kids w.heap.size wz (.slice (some ⟨gb, 0, none⟩) (ks ++ [(m, A1, c1)]).length cb) (ks ++ [(m, A1, c1)]) by rw [List.length_append]; exact hzK.out)
                      have hzB' := Aside0.mk (show wz.heap[bn]? = some (.cells (callCs name pos (.slice (some ⟨gb, 0, none⟩) (ks ++ [(m, A1, c1)]).length cb)) 58 (0, 0)) by rw [List.length_append]; exact hzB.out)
                      clear hwz HA4 HB4 HR4 HKw4 HPush HR4o HKw4o HK3 hMk z40 z41 z42 z43 f4 qb4 fb4 hM hR3 hK3 hz ho4 hgr4 hgK hnrow hlow hat4 hHeld hqb hqa HBn HKd HAn HRs HKs hc2 hc3 hh hr2 hzB hzK H44 H4 qaz
                      have qza := blk_cell hzA.out 0
                      have qz4 := fun i => blk_cell hz4.out i
                      have hazz : a < wz.heap.size := by omega
                      have hgzz : g < wz.heap.size := by omega
                      simp only [tkCs] at qz4
                      cases l3 with
                      | nil => exact absurd rfl hl3
                      | cons t3 r3 =>
                        have hr3 : isIt [sComma] t3 = true → r3 ≠ [] := fun q => args_rest HH.out q
                        unfold ndV
                        simp only [putAll]
                        go_wp2_with (fail)
                        have hS3 := strs_new (wz.alloc (.cells (tkCs u) 87)) [sComma] #[.string sComma] rfl (by decide)
                        simp only [World.size_alloc] at hS3
                        refine (is_calls g T _ t3 r3 d _ _ [sComma] ((hzR.out.alloc _).alloc _) hS3 (by decide) (by decide) hr3).mono ?_
                        rintro e w6 ⟨rfl, hR6, hK6⟩
                        have hs6 := hK6.size
                        simp at hs6
                        have Y0 := Aside0.mk (hK6.blk (blk_alloc (blk_alloc hzA.out _) _) hag)
                        have Y1 := Aside0.mk (hK6.blk (blk_alloc (blk_alloc hzB'.out _) _) hng)
                        have Y4 := Aside0.mk (hK6.blk (blk_alloc (heap_alloc_new wz (.cells (tkCs u) 87)) _) (by have := hzR.out.lt; omega))
                        have YK := Aside0.mk (hzK'.out.kept (T := fun k => k = g) (Kept.trans (S := fun k => k = g) (((Kept.refl _ wz).alloc _).alloc _) hK6 (fun _ _ q => q)) (fun j _ q => by have q' : j = g := q; omega))
                        have YW := Aside0.mk (Kept.trans ((hzW.out.alloc _).alloc _) hK6 (fun _ _ q => Or.inl q))
                        have YR := Aside0.mk hR6
                        clear hK6 hR6 hS3 qza hzA hzB' hzK' hzW hzR hz4 qz4
                        unfold tokV
                        go_wp2_with (fail)
                        go_roundg gk
                        case measure => omega
                        case rel =>
                          exact ⟨⟨ks ++ [(m, A1, c1)], _, _, t3, r3, wz.heap.size, u, rfl, rfl, HH.out, Y1.out, Y0.out, Y4.out, YK.out, YR.out, YW.out, by omega, by omega, hbd⟩⟩
end Go.Proofs.YtfgogfdbjbnlbaaDoor.PExpr
end
section
namespace Go.Proofs.YtfgogfdbjbnlbaaDoor.PExpr
open Go.RowKit Go.Proofs.YtfgogfdbjbnlbaaDoorW.PrintWords Go.Proofs.YtfgogfdbjbnlbaaDoorW.PrintLast Go.Proofs.YtfgogfdbjbnlbaaDoorW.PrintMore
set_option linter.unusedVariables false
set_option linter.unusedSimpArgs false
set_option maxHeartbeats 1000000 in
set_option maxRecDepth 100000 in
theorem named_calls (g T : Nat) (d : Int) (orP : Int → List Tk → Option Res) (hp : PartC g T (d + 1) (orP (d + 1)) 41) (t : Tk) (l : List Tk) (R : Res) (w : World) (k : Nat) (hk : k ≤ 1000000) (hd0 : 0 ≤ d) (hd : d ≤ 20) (hl : l ≠ []) (hR : Rd g T w l d)
    (h : namedP orP k d t l = some R) : Calls Tryd.prog 92 #[.pointer (some ⟨g, 0, none⟩), tokV t] w (Post g T d w R) := by
  cases l with
  | nil => exact absurd rfl hl
  | cons u r =>
  have hg := hR.lt
  have hT := hR.Tlt hl
  have hg1 : ∀ k, g < w.heap.size + k := fun k => by omega
  have hT1 : ∀ k, T < w.heap.size + k := fun k => by omega
  have hmf := makeFunc_run
  obtain ⟨off, c, h0, h1, z0, z1, hc, hTg, hC⟩ := hR.cell
  obtain ⟨x0, x1, x2⟩ := head_cells hC
  have hlen : (0 : Int) < ((u :: r).length : Int) := by (first | (simp; done) | (simp; omega) | omega)
  have HP := Aside0.mk hp
  have HR := Aside0.mk hR
  have H := Aside0.mk h
  clear hp hR h hC
  have hS := strs_new (((w.alloc (.cells #[.pointer (some ⟨g, 0, none⟩)] 82)).alloc (.cells (tkCs t) 87)).alloc (.cells zeroNd 58)) types4 #[.string ⟨#[100, 97, 116, 101]⟩, .string ⟨#[116, 105, 109, 101, 115, 116, 97, 109, 112]⟩, .string ⟨#[116, 105, 109, 101, 115, 116, 97, 109, 112, 116, 122]⟩, .string ⟨#[105, 110, 116, 101, 114, 118, 97, 108]⟩] rfl (by decide)
  simp only [World.size_alloc] at hS
  have HS := Aside0.mk hS
  clear hS
  unfold tokV
  by_cases hu : u.f0 = 2 ∧ hasB types4 t.f1 = true
  · have hh := H.out
    simp only [namedP] at hh
    rw [if_pos hu] at hh
    have hr : r ≠ [] := by
      intro q
      subst q
      cases hh
    rw [if_neg (by simpa using hr)] at hh
    obtain rfl := Option.some.inj hh
    clear hh
    have hu1 := hu.1
    clear H HP
    have HR3 := Aside0.mk (((HR.out.alloc (.cells #[.pointer (some ⟨g, 0, none⟩)] 82)).alloc (.cells (tkCs t) 87)).alloc (.cells zeroNd 58))
    go_enter Tryd.func92, Tryd.ntmps92
    go_wp2_with (fail)
    refine (contains_calls _ 4 types4 t.f1 _ HS.out (by decide) (by decide)).mono ?_
    rintro e w' ⟨rfl, ⟨m, rfl⟩⟩
    rw [hu.2]
    go_wp2_with (fail)
    have Q0 := Aside0.mk (show (((((w.alloc (.cells #[.pointer (some ⟨g, 0, none⟩)] 82)).alloc (.cells (tkCs t) 87)).alloc (.cells zeroNd 58)).alloc (.cells #[.string ⟨#[100, 97, 116, 101]⟩, .string ⟨#[116, 105, 109, 101, 115, 116, 97, 109, 112]⟩, .string ⟨#[116, 105, 109, 101, 115, 116, 97, 109, 112, 116, 122]⟩, .string ⟨#[105, 110, 116, 101, 114, 118, 97, 108]⟩] 9)).drewN m).heap[w.heap.size]? = some (.cells #[.pointer (some ⟨g, 0, none⟩)] 82 (0, 0)) from blk_alloc (blk_alloc (blk_alloc (heap_alloc_new w (.cells #[.pointer (some ⟨g, 0, none⟩)] 82)) (.cells (tkCs t) 87)) (.cells zeroNd 58)) (.cells #[.string ⟨#[100, 97, 116, 101]⟩, .string ⟨#[116, 105, 109, 101, 115, 116, 97, 109, 112]⟩, .string ⟨#[116, 105, 109, 101, 115, 116, 97, 109, 112, 116, 122]⟩, .string ⟨#[105, 110, 116, 101, 114, 118, 97, 108]⟩] 9))
    have Q1 := Aside0.mk (show (((((w.alloc (.cells #[.pointer (some ⟨g, 0, none⟩)] 82)).alloc (.cells (tkCs t) 87)).alloc (.cells zeroNd 58)).alloc (.cells #[.string ⟨#[100, 97, 116, 101]⟩, .string ⟨#[116, 105, 109, 101, 115, 116, 97, 109, 112]⟩, .string ⟨#[116, 105, 109, 101, 115, 116, 97, 109, 112, 116, 122]⟩, .string ⟨#[105, 110, 116, 101, 114, 118, 97, 108]⟩] 9)).drewN m).heap[w.heap.size + 1]? = some (.cells (tkCs t) 87 (0, 0)) from by rw [← World.size_alloc w (.cells #[.pointer (some ⟨g, 0, none⟩)] 82)]; exact blk_alloc (blk_alloc (heap_alloc_new (w.alloc (.cells #[.pointer (some ⟨g, 0, none⟩)] 82)) (.cells (tkCs t) 87)) (.cells zeroNd 58)) (.cells #[.string ⟨#[100, 97, 116, 101]⟩, .string ⟨#[116, 105, 109, 101, 115, 116, 97, 109, 112]⟩, .string ⟨#[116, 105, 109, 101, 115, 116, 97, 109, 112, 116, 122]⟩, .string ⟨#[105, 110, 116, 101, 114, 118, 97, 108]⟩] 9))
    have Q2 := Aside0.mk (show (((((w.alloc (.cells #[.pointer (some ⟨g, 0, none⟩)] 82)).alloc (.cells (tkCs t) 87)).alloc (.cells zeroNd 58)).alloc (.cells #[.string ⟨#[100, 97, 116, 101]⟩, .string ⟨#[116, 105, 109, 101, 115, 116, 97, 109, 112]⟩, .string ⟨#[116, 105, 109, 101, 115, 116, 97, 109, 112, 116, 122]⟩, .string ⟨#[105, 110, 116, 101, 114, 118, 97, 108]⟩] 9)).drewN m).heap[w.heap.size + 1 + 1]? = some (.cells zeroNd 58 (0, 0)) from by rw [← World.size_alloc w (.cells #[.pointer (some ⟨g, 0, none⟩)] 82), ← World.size_alloc (w.alloc (.cells #[.pointer (some ⟨g, 0, none⟩)] 82)) (.cells (tkCs t) 87)]; exact blk_alloc (heap_alloc_new ((w.alloc (.cells #[.pointer (some ⟨g, 0, none⟩)] 82)).alloc (.cells (tkCs t) 87)) (.cells zeroNd 58)) (.cells #[.string ⟨#[100, 97, 116, 101]⟩, .string ⟨#[116, 105, 109, 101, 115, 116, 97, 109, 112]⟩, .string ⟨#[116, 105, 109, 101, 115, 116, 97, 109, 112, 116, 122]⟩, .string ⟨#[105, 110, 116, 101, 114, 118, 97, 108]⟩] 9))
    have QR := Aside0.mk ((HR3.out.alloc (.cells #[.string ⟨#[100, 97, 116, 101]⟩, .string ⟨#[116, 105, 109, 101, 115, 116, 97, 109, 112]⟩, .string ⟨#[116, 105, 109, 101, 115, 116, 97, 109, 112, 116, 122]⟩, .string ⟨#[105, 110, 116, 101, 114, 118, 97, 108]⟩] 9)).drewN m)
    have QK := Aside0.mk (show Kept (fun k => k = g) w (((((w.alloc (.cells #[.pointer (some ⟨g, 0, none⟩)] 82)).alloc (.cells (tkCs t) 87)).alloc (.cells zeroNd 58)).alloc (.cells #[.string ⟨#[100, 97, 116, 101]⟩, .string ⟨#[116, 105, 109, 101, 115, 116, 97, 109, 112]⟩, .string ⟨#[116, 105, 109, 101, 115, 116, 97, 109, 112, 116, 122]⟩, .string ⟨#[105, 110, 116, 101, 114, 118, 97, 108]⟩] 9)).drewN m) from (((((Kept.refl (fun k => k = g) w).alloc (.cells #[.pointer (some ⟨g, 0, none⟩)] 82)).alloc (.cells (tkCs t) 87)).alloc (.cells zeroNd 58)).alloc (.cells #[.string ⟨#[100, 97, 116, 101]⟩, .string ⟨#[116, 105, 109, 101, 115, 116, 97, 109, 112]⟩, .string ⟨#[116, 105, 109, 101, 115, 116, 97, 109, 112, 116, 122]⟩, .string ⟨#[105, 110, 116, 101, 114, 118, 97, 108]⟩] 9)).drewN m)
    have hwq : w.heap.size + 3 ≤ (((((w.alloc (.cells #[.pointer (some ⟨g, 0, none⟩)] 82)).alloc (.cells (tkCs t) 87)).alloc (.cells zeroNd 58)).alloc (.cells #[.string ⟨#[100, 97, 116, 101]⟩, .string ⟨#[116, 105, 109, 101, 115, 116, 97, 109, 112]⟩, .string ⟨#[116, 105, 109, 101, 115, 116, 97, 109, 112, 116, 122]⟩, .string ⟨#[105, 110, 116, 101, 114, 118, 97, 108]⟩] 9)).drewN m).heap.size := by (first | (simp; done) | (simp; omega) | omega)
    generalize hW : (((((w.alloc (.cells #[.pointer (some ⟨g, 0, none⟩)] 82)).alloc (.cells (tkCs t) 87)).alloc (.cells zeroNd 58)).alloc (.cells #[.string ⟨#[100, 97, 116, 101]⟩, .string ⟨#[116, 105, 109, 101, 115, 116, 97, 109, 112]⟩, .string ⟨#[116, 105, 109, 101, 115, 116, 97, 109, 112, 116, 122]⟩, .string ⟨#[105, 110, 116, 101, 114, 118, 97, 108]⟩] 9)).drewN m) = wq at Q0 Q1 Q2 QR QK hwq ⊢
    clear hW
    refine (take_calls g T _ u r d QR.out (fun _ => hr)).mono ?_
    rintro e w1 ⟨rfl, hR1, hK1⟩
    rw [if_neg (by omega)] at hR1
    have hs1 := hK1.size
    have Y1 := Aside0.mk (hK1.blk Q1.out (by omega))
    have Y2 := Aside0.mk (hK1.blk Q2.out (by omega))
    have YR := Aside0.mk hR1
    have YK := Aside0.mk (Kept.trans QK.out hK1 (fun _ _ q => q))
    clear hR1 hK1 Q0 Q1 Q2 QR QK h0 h1 z0 z1 x0 x1 x2
    unfold tokV
    have y1 := fun i => blk_cell Y1.out i
    have y2 := fun i => blk_cell Y2.out i
    have f2 := fun i => blk_frozen Y2.out i
    simp only [zeroNd, tkCs] at y1 y2
    have hl1 : w.heap.size < w1.heap.size := by omega
    have hl2 : w.heap.size + 1 < w1.heap.size := by omega
    have hl3 : w.heap.size + 1 + 1 < w1.heap.size := by omega
    go_wp2_with (fail)
    ((try simp only [Exit.inBlock, Exit.then]); refine bodyPost_ret (by simp [results, Tryd.results92, go_sem, *]; try rfl) rfl ?_)
    have YRo := YR.out
    have YKo := YK.out
    refine ⟨some ⟨w1.heap.size + 1, 0, none⟩, 1, rfl, ⟨Nat.le_refl 1, fun W k => ?_⟩, hr, by (repeat' (first | (with_reducible assumption) | (with_reducible apply Rd.alloc) | (with_reducible apply Rd.drew) | (with_reducible apply Rd.drewN) | (with_reducible refine Rd.setO ?_ _ _ _ (by (first | (simp; done) | (simp; omega) | omega)) (by (first | (simp; done) | (simp; omega) | omega))))), by (repeat' (first | (with_reducible exact Kept.refl _ _) | (with_reducible assumption) | (with_reducible apply Kept.alloc) | (with_reducible apply Kept.drew) | (with_reducible apply Kept.drewN) | (with_reducible refine Kept.setCell ?_ _ _ _ ?_) | (with_reducible exact Or.inl rfl) | (left; assumption) | (right; simp; done) | (right; omega)))⟩
    have hz := NdS.zero (fun k => k < w.heap.size) (((((w1.setCell ⟨w.heap.size + 1 + 1, 0, none⟩ (.int .i64 5)).setCell ⟨w.heap.size + 1 + 1, 1, none⟩ (.string t.f1)).setCell ⟨w.heap.size + 1 + 1, 2, none⟩ (.slice (some ⟨w1.heap.size + 1, 0, none⟩) 1 1)).setCell ⟨w.heap.size + 1 + 1, 3, none⟩ (.int .i64 t.f2)).alloc (.cells #[.int .i64 2, .string u.f1, .int .i64 u.f2] 87)) 3 u.f1 u.f2
    have hk1 := kids1_new hz (W := W) (by simp; omega) k
    simpa using hk1
  · have hst : True := trivial
    have HR3 := Aside0.mk (show Rd g T (((w.alloc (.cells #[.pointer (some ⟨g, 0, none⟩)] 82)).alloc (.cells (tkCs t) 87)).alloc (.cells zeroNd 58)) (u :: r) d from ((HR.out.alloc _).alloc _).alloc _)
    have hno0 : u.f0 = 2 → hasB types4 t.f1 = false := fun hu2 => by
      cases q : hasB types4 t.f1 with
      | false => rfl
      | true => exact absurd ⟨hu2, q⟩ hu
    by_cases hu2 : u.f0 = 2
    all_goals
      first
      | (have hno := hno0 hu2
         go_enter Tryd.func92, Tryd.ntmps92
         go_wp2_with (fail)
         refine (contains_calls _ 4 types4 t.f1 _ HS.out (by decide) (by decide)).mono ?_
         rintro e w' ⟨rfl, ⟨m, rfl⟩⟩
         rw [hno]
         go_wp2_with (fail)
         have Q0 := Aside0.mk (show (((((w.alloc (.cells #[.pointer (some ⟨g, 0, none⟩)] 82)).alloc (.cells (tkCs t) 87)).alloc (.cells zeroNd 58)).alloc (.cells #[.string ⟨#[100, 97, 116, 101]⟩, .string ⟨#[116, 105, 109, 101, 115, 116, 97, 109, 112]⟩, .string ⟨#[116, 105, 109, 101, 115, 116, 97, 109, 112, 116, 122]⟩, .string ⟨#[105, 110, 116, 101, 114, 118, 97, 108]⟩] 9)).drewN m).heap[w.heap.size]? = some (.cells #[.pointer (some ⟨g, 0, none⟩)] 82 (0, 0)) from blk_alloc (blk_alloc (blk_alloc (heap_alloc_new w (.cells #[.pointer (some ⟨g, 0, none⟩)] 82)) (.cells (tkCs t) 87)) (.cells zeroNd 58)) (.cells #[.string ⟨#[100, 97, 116, 101]⟩, .string ⟨#[116, 105, 109, 101, 115, 116, 97, 109, 112]⟩, .string ⟨#[116, 105, 109, 101, 115, 116, 97, 109, 112, 116, 122]⟩, .string ⟨#[105, 110, 116, 101, 114, 118, 97, 108]⟩] 9))
         have Q1 := Aside0.mk (show (((((w.alloc (.cells #[.pointer (some ⟨g, 0, none⟩)] 82)).alloc (.cells (tkCs t) 87)).alloc (.cells zeroNd 58)).alloc (.cells #[.string ⟨#[100, 97, 116, 101]⟩, .string ⟨#[116, 105, 109, 101, 115, 116, 97, 109, 112]⟩, .string ⟨#[116, 105, 109, 101, 115, 116, 97, 109, 112, 116, 122]⟩, .string ⟨#[105, 110, 116, 101, 114, 118, 97, 108]⟩] 9)).drewN m).heap[w.heap.size + 1]? = some (.cells (tkCs t) 87 (0, 0)) from by rw [← World.size_alloc w (.cells #[.pointer (some ⟨g, 0, none⟩)] 82)]; exact blk_alloc (blk_alloc (heap_alloc_new (w.alloc (.cells #[.pointer (some ⟨g, 0, none⟩)] 82)) (.cells (tkCs t) 87)) (.cells zeroNd 58)) (.cells #[.string ⟨#[100, 97, 116, 101]⟩, .string ⟨#[116, 105, 109, 101, 115, 116, 97, 109, 112]⟩, .string ⟨#[116, 105, 109, 101, 115, 116, 97, 109, 112, 116, 122]⟩, .string ⟨#[105, 110, 116, 101, 114, 118, 97, 108]⟩] 9))
         have Q2 := Aside0.mk (show (((((w.alloc (.cells #[.pointer (some ⟨g, 0, none⟩)] 82)).alloc (.cells (tkCs t) 87)).alloc (.cells zeroNd 58)).alloc (.cells #[.string ⟨#[100, 97, 116, 101]⟩, .string ⟨#[116, 105, 109, 101, 115, 116, 97, 109, 112]⟩, .string ⟨#[116, 105, 109, 101, 115, 116, 97, 109, 112, 116, 122]⟩, .string ⟨#[105, 110, 116, 101, 114, 118, 97, 108]⟩] 9)).drewN m).heap[w.heap.size + 1 + 1]? = some (.cells zeroNd 58 (0, 0)) from by rw [← World.size_alloc w (.cells #[.pointer (some ⟨g, 0, none⟩)] 82), ← World.size_alloc (w.alloc (.cells #[.pointer (some ⟨g, 0, none⟩)] 82)) (.cells (tkCs t) 87)]; exact blk_alloc (heap_alloc_new ((w.alloc (.cells #[.pointer (some ⟨g, 0, none⟩)] 82)).alloc (.cells (tkCs t) 87)) (.cells zeroNd 58)) (.cells #[.string ⟨#[100, 97, 116, 101]⟩, .string ⟨#[116, 105, 109, 101, 115, 116, 97, 109, 112]⟩, .string ⟨#[116, 105, 109, 101, 115, 116, 97, 109, 112, 116, 122]⟩, .string ⟨#[105, 110, 116, 101, 114, 118, 97, 108]⟩] 9))
         have QR := Aside0.mk (show Rd g T (((((w.alloc (.cells #[.pointer (some ⟨g, 0, none⟩)] 82)).alloc (.cells (tkCs t) 87)).alloc (.cells zeroNd 58)).alloc (.cells #[.string ⟨#[100, 97, 116, 101]⟩, .string ⟨#[116, 105, 109, 101, 115, 116, 97, 109, 112]⟩, .string ⟨#[116, 105, 109, 101, 115, 116, 97, 109, 112, 116, 122]⟩, .string ⟨#[105, 110, 116, 101, 114, 118, 97, 108]⟩] 9)).drewN m) (u :: r) d from (HR3.out.alloc (.cells #[.string ⟨#[100, 97, 116, 101]⟩, .string ⟨#[116, 105, 109, 101, 115, 116, 97, 109, 112]⟩, .string ⟨#[116, 105, 109, 101, 115, 116, 97, 109, 112, 116, 122]⟩, .string ⟨#[105, 110, 116, 101, 114, 118, 97, 108]⟩] 9)).drewN m)
         have QK := Aside0.mk (show Kept (fun k => k = g) w (((((w.alloc (.cells #[.pointer (some ⟨g, 0, none⟩)] 82)).alloc (.cells (tkCs t) 87)).alloc (.cells zeroNd 58)).alloc (.cells #[.string ⟨#[100, 97, 116, 101]⟩, .string ⟨#[116, 105, 109, 101, 115, 116, 97, 109, 112]⟩, .string ⟨#[116, 105, 109, 101, 115, 116, 97, 109, 112, 116, 122]⟩, .string ⟨#[105, 110, 116, 101, 114, 118, 97, 108]⟩] 9)).drewN m) from (((((Kept.refl (fun k => k = g) w).alloc (.cells #[.pointer (some ⟨g, 0, none⟩)] 82)).alloc (.cells (tkCs t) 87)).alloc (.cells zeroNd 58)).alloc (.cells #[.string ⟨#[100, 97, 116, 101]⟩, .string ⟨#[116, 105, 109, 101, 115, 116, 97, 109, 112]⟩, .string ⟨#[116, 105, 109, 101, 115, 116, 97, 109, 112, 116, 122]⟩, .string ⟨#[105, 110, 116, 101, 114, 118, 97, 108]⟩] 9)).drewN m)
         have hwq : w.heap.size + 3 ≤ (((((w.alloc (.cells #[.pointer (some ⟨g, 0, none⟩)] 82)).alloc (.cells (tkCs t) 87)).alloc (.cells zeroNd 58)).alloc (.cells #[.string ⟨#[100, 97, 116, 101]⟩, .string ⟨#[116, 105, 109, 101, 115, 116, 97, 109, 112]⟩, .string ⟨#[116, 105, 109, 101, 115, 116, 97, 109, 112, 116, 122]⟩, .string ⟨#[105, 110, 116, 101, 114, 118, 97, 108]⟩] 9)).drewN m).heap.size := by (first | (simp; done) | (simp; omega) | omega)
         generalize hW : (((((w.alloc (.cells #[.pointer (some ⟨g, 0, none⟩)] 82)).alloc (.cells (tkCs t) 87)).alloc (.cells zeroNd 58)).alloc (.cells #[.string ⟨#[100, 97, 116, 101]⟩, .string ⟨#[116, 105, 109, 101, 115, 116, 97, 109, 112]⟩, .string ⟨#[116, 105, 109, 101, 115, 116, 97, 109, 112, 116, 122]⟩, .string ⟨#[105, 110, 116, 101, 114, 118, 97, 108]⟩] 9)).drewN m) = wq at Q0 Q1 Q2 QR QK hwq ⊢
         clear hW)
      | (have hu2' := eq_false hu2
         go_enter Tryd.func92, Tryd.ntmps92
         go_wp2_with (fail)
         have Q0 := Aside0.mk (show (((w.alloc (.cells #[.pointer (some ⟨g, 0, none⟩)] 82)).alloc (.cells (tkCs t) 87)).alloc (.cells zeroNd 58)).heap[w.heap.size]? = some (.cells #[.pointer (some ⟨g, 0, none⟩)] 82 (0, 0)) from blk_alloc (blk_alloc (heap_alloc_new w (.cells #[.pointer (some ⟨g, 0, none⟩)] 82)) (.cells (tkCs t) 87)) (.cells zeroNd 58))
         have Q1 := Aside0.mk (show (((w.alloc (.cells #[.pointer (some ⟨g, 0, none⟩)] 82)).alloc (.cells (tkCs t) 87)).alloc (.cells zeroNd 58)).heap[w.heap.size + 1]? = some (.cells (tkCs t) 87 (0, 0)) from by rw [← World.size_alloc w (.cells #[.pointer (some ⟨g, 0, none⟩)] 82)]; exact blk_alloc (heap_alloc_new (w.alloc (.cells #[.pointer (some ⟨g, 0, none⟩)] 82)) (.cells (tkCs t) 87)) (.cells zeroNd 58))
         have Q2 := Aside0.mk (show (((w.alloc (.cells #[.pointer (some ⟨g, 0, none⟩)] 82)).alloc (.cells (tkCs t) 87)).alloc (.cells zeroNd 58)).heap[w.heap.size + 1 + 1]? = some (.cells zeroNd 58 (0, 0)) from by rw [← World.size_alloc w (.cells #[.pointer (some ⟨g, 0, none⟩)] 82), ← World.size_alloc (w.alloc (.cells #[.pointer (some ⟨g, 0, none⟩)] 82)) (.cells (tkCs t) 87)]; exact heap_alloc_new ((w.alloc (.cells #[.pointer (some ⟨g, 0, none⟩)] 82)).alloc (.cells (tkCs t) 87)) (.cells zeroNd 58))
         have QR := Aside0.mk (show Rd g T (((w.alloc (.cells #[.pointer (some ⟨g, 0, none⟩)] 82)).alloc (.cells (tkCs t) 87)).alloc (.cells zeroNd 58)) (u :: r) d from HR3.out)
         have QK := Aside0.mk (show Kept (fun k => k = g) w (((w.alloc (.cells #[.pointer (some ⟨g, 0, none⟩)] 82)).alloc (.cells (tkCs t) 87)).alloc (.cells zeroNd 58)) from ((((Kept.refl (fun k => k = g) w).alloc (.cells #[.pointer (some ⟨g, 0, none⟩)] 82)).alloc (.cells (tkCs t) 87)).alloc (.cells zeroNd 58)))
         have hwq : w.heap.size + 3 ≤ (((w.alloc (.cells #[.pointer (some ⟨g, 0, none⟩)] 82)).alloc (.cells (tkCs t) 87)).alloc (.cells zeroNd 58)).heap.size := by (first | (simp; done) | (simp; omega) | omega)
         generalize hW : (((w.alloc (.cells #[.pointer (some ⟨g, 0, none⟩)] 82)).alloc (.cells (tkCs t) 87)).alloc (.cells zeroNd 58)) = wq at Q0 Q1 Q2 QR QK hwq ⊢
         clear hW)
    all_goals
      have q0 := blk_cell Q0.out 0
      have q1 := fun i => blk_cell Q1.out i
      have q2 := fun i => blk_cell Q2.out i
      have f2 := fun i => blk_frozen Q2.out i
      simp only [zeroNd, tkCs] at q1 q2
      have hh := H.out
      replace hh : (if isIt [sOpen] u = true then (if r.isEmpty = true then none else if d + 1 > 20 then some (.bad 31 t.f2) else argsP (orP (d + 1)) k r (endC t.f1 t.f2)) else some (.bad 30 u.f2)) = some R := by
        have := H.out
        simp only [namedP] at this
        rw [if_neg hu] at this
        exact this
      cases hi : isIt [sOpen] u with
      | false =>
        rw [if_neg (by rw [hi]; simp)] at hh
        obtain rfl := Option.some.inj hh
        refine (want_no g T _ u r d sOpen QR.out hi).mono ?_
        rintro e w5 ⟨he, hK5⟩
        unfold Thrown at he
        subst he
        exact ⟨rfl, rfl, Kept.trans QK.out hK5 (fun _ _ q => q)⟩
      | true =>
        rw [if_pos hi] at hh
        have hr : r ≠ [] := by
          intro q
          subst q
          cases hh
        rw [if_neg (by simpa using hr)] at hh
        refine (want_yes g T _ u r d sOpen QR.out hi hr).mono ?_
        rintro e w1 ⟨rfl, hR1, hK1⟩
        have hs1 := hK1.size
        have Y0 := Aside0.mk (hK1.blk Q0.out (by omega))
        have Y1 := Aside0.mk (hK1.blk Q1.out (by omega))
        have Y2 := Aside0.mk (hK1.blk Q2.out (by omega))
        have YR := Aside0.mk hR1
        have YK := Aside0.mk (Kept.trans QK.out hK1 (fun _ _ q => q))
        have HH := Aside0.mk hh
        clear hR1 hK1 Q0 Q1 Q2 QR QK h0 h1 z0 z1 x0 x1 x2 q0 q1 q2 f2 hh
        have y0 := blk_cell Y0.out 0
        have y1 := fun i => blk_cell Y1.out i
        have y2 := fun i => blk_cell Y2.out i
        have f2 := fun i => blk_frozen Y2.out i
        simp only [zeroNd, tkCs] at y1 y2
        have hl1 : w.heap.size < w1.heap.size := by omega
        have hl2 : w.heap.size + 1 < w1.heap.size := by omega
        have hl3 : w.heap.size + 1 + 1 < w1.heap.size := by omega
        have hgw1 : g < w1.heap.size := by omega
        have hf81 : ∀ args w, (callFunc 94 args).run Tryd.prog w = .ok (.enter 94 args) w := enters_of Tryd.func94 (by kernel_rfl) rfl
        have HF81 := Aside0.mk hf81
        clear hf81
        go_wp2_with (fail)
        have hRa := YR.out.alloc (.cells (callCs t.f1 t.f2 (.slice none 0 0)) 58)
        obtain ⟨off', c', h0, h1, z0, z1, hc', hT', hC⟩ := hRa.cell
        have X0 := blk_alloc Y0.out (.cells (callCs t.f1 t.f2 (.slice none 0 0)) 58)
        have X2 := blk_alloc Y2.out (.cells (callCs t.f1 t.f2 (.slice none 0 0)) 58)
        have XB := heap_alloc_new w1 (.cells (callCs t.f1 t.f2 (.slice none 0 0)) 58)
        have hKa : Kept (fun k => k = g) w (w1.alloc (.cells (callCs t.f1 t.f2 (.slice none 0 0)) 58)) := YK.out.alloc _
        have hsz : (w1.alloc (.cells (callCs t.f1 t.f2 (.slice none 0 0)) 58)).heap.size = w1.heap.size + 1 := by simp
        rw [show (w1.alloc (.cells #[.int .i64 9, .string t.f1, .slice none 0 0, .int .i64 t.f2] 58)) = w1.alloc (.cells (callCs t.f1 t.f2 (.slice none 0 0)) 58) from rfl]
        clear y0 y1 y2 f2 Y0 Y1 Y2 YR YK hC
        generalize w1.alloc (.cells (callCs t.f1 t.f2 (.slice none 0 0)) 58) = w5 at *
        have hlt := hRa.lt
        have hh := HH.out
        by_cases hdd : d + 1 > 20
        · rw [if_pos hdd] at hh
          obtain rfl := Option.some.inj hh
          refine (within_deep 94 g d t.f2 _ _ h1 z1 hd0 hd hdd).mono ?_
          rintro e w2 ⟨he, hK2⟩
          unfold Thrown at he
          subst he
          exact ⟨rfl, rfl, Kept.trans hKa hK2 (fun _ _ h => h)⟩
        · rw [if_neg hdd] at hh
          have hR6 := hRa.set1 (d + 1)
          have X0' := blk_setO (v := .int .i64 (d + 1)) (i := 1) (b := g) X0 (by omega)
          have X2' := blk_setO (v := .int .i64 (d + 1)) (i := 1) (b := g) X2 (by omega)
          have XB' := blk_setO (v := .int .i64 (d + 1)) (i := 1) (b := g) XB (by omega)
          have hK6 : Kept (fun k => k = g) w (w5.setCell ⟨g, 1, none⟩ (.int .i64 (d + 1))) := by (repeat' (first | (with_reducible exact Kept.refl _ _) | (with_reducible assumption) | (with_reducible apply Kept.alloc) | (with_reducible apply Kept.drew) | (with_reducible apply Kept.drewN) | (with_reducible refine Kept.setCell ?_ _ _ _ ?_) | (with_reducible exact Or.inl rfl) | (left; assumption) | (right; simp; done) | (right; omega)))
          have hs6 : (w5.setCell ⟨g, 1, none⟩ (.int .i64 (d + 1))).heap.size = w1.heap.size + 1 := by rw [World.size_setCell]; exact hsz
          have hn1 := named1_calls g T (d + 1) (orP (d + 1)) HP.out w.heap.size w1.heap.size r R (w5.setCell ⟨g, 1, none⟩ (.int .i64 (d + 1))) k t.f1 t.f2 hk hr hR6 X0' XB' (by omega) (by omega) (by omega) (by omega) hh
          cases R with
          | bad why pos =>
            refine (within_calls 94 HF81.out g d t.f2 #[.pointer (some ⟨w.heap.size, 0, none⟩), .pointer (some ⟨w1.heap.size, 0, none⟩)] w5 (fun _ => False) (fun e w3 => Thrown e why pos ∧ Kept (fun k => k = g ∨ k = w1.heap.size) (w5.setCell ⟨g, 1, none⟩ (.int .i64 (d + 1))) w3) h1 z1 hd0 (by omega) ?_).mono ?_
            · refine hn1.mono ?_
              rintro e w2 ⟨he, hK2⟩
              exact Or.inr ⟨_, he, he, hK2⟩
            · rintro e w3 (⟨rfl, w2, hq, _⟩ | ⟨c2, rfl, hq⟩)
              · exact hq.elim
              · exact ⟨rfl, hq.1, Kept.trans hK6 hq.2 (fun j hj q => by rcases q with q | q; exact q; omega)⟩
          | ok n l' =>
            refine (within_calls 94 HF81.out g d t.f2 #[.pointer (some ⟨w.heap.size, 0, none⟩), .pointer (some ⟨w1.heap.size, 0, none⟩)] w5
              (fun w2 => ∃ A c, w2.heap[w1.heap.size]? = some (.cells (ndCs n A c) 58 (0, 0)) ∧ NdS (fun k => k < (w5.setCell ⟨g, 1, none⟩ (.int .i64 (d + 1))).heap.size) w2 n A c ∧ l' ≠ [] ∧ Rd g T w2 l' (d + 1) ∧ Kept (fun k => k = g ∨ k = w1.heap.size) (w5.setCell ⟨g, 1, none⟩ (.int .i64 (d + 1))) w2)
              (fun e w3 => False) h1 z1 hd0 (by omega) ?_).mono ?_
            · refine hn1.mono ?_
              rintro e w2 ⟨rfl, A, c, hb, hN, hl', hRc, hKc⟩
              obtain ⟨_, _, _, e1, _, e2, _⟩ := hRc.cell
              exact Or.inl ⟨rfl, ⟨A, c, hb, hN, hl', hRc, hKc⟩, e1, e2⟩
            · rintro e w3 (⟨rfl, w2, ⟨A, c, hb, hN, hl', hRc, hKc⟩, rfl⟩ | ⟨c2, rfl, hq⟩)
              · have hsc := hKc.size
                rw [hs6] at hsc hN
                have V2 := Aside0.mk (blk_setO (v := .int .i64 d) (i := 1) (b := g) (hKc.blk X2' (by omega)) (by omega))
                have VB := Aside0.mk (blk_setO (v := .int .i64 d) (i := 1) (b := g) hb (by omega))
                have VR := Aside0.mk (hRc.set1 d)
                have hKw2 : Kept (fun k => k = g) w w2 := Kept.trans hK6 hKc (fun j hj q => by rcases q with q | q; exact q; omega)
                have VK := Aside0.mk (show Kept (fun k => k = g) w (w2.setCell ⟨g, 1, none⟩ (.int .i64 d)) from by (repeat' (first | (with_reducible exact Kept.refl _ _) | (with_reducible assumption) | (with_reducible apply Kept.alloc) | (with_reducible apply Kept.drew) | (with_reducible apply Kept.drewN) | (with_reducible refine Kept.setCell ?_ _ _ _ ?_) | (with_reducible exact Or.inl rfl) | (left; assumption) | (right; simp; done) | (right; omega))))
                have VN := Aside0.mk (hN.kept (S' := fun k => k < w1.heap.size + 1) (T := fun k => k = g) (w' := w2.setCell ⟨g, 1, none⟩ (.int .i64 d)) (by (repeat' (first | (with_reducible exact Kept.refl _ _) | (with_reducible assumption) | (with_reducible apply Kept.alloc) | (with_reducible apply Kept.drew) | (with_reducible apply Kept.drewN) | (with_reducible refine Kept.setCell ?_ _ _ _ ?_) | (with_reducible exact Or.inl rfl) | (left; assumption) | (right; simp; done) | (right; omega)))) (fun j _ q => by have q' : j = g := q; show j < _; omega) (fun j _ q => q))
                have hsf : w1.heap.size < (w2.setCell ⟨g, 1, none⟩ (.int .i64 d)).heap.size := by rw [World.size_setCell]; omega
                clear X0 X2 XB X0' X2' XB' hK6 hs6 hn1 hR6 hRa hKa h0 h1 z0 z1 hb hN hRc hKc hKw2 hh HH
                generalize w2.setCell ⟨g, 1, none⟩ (.int .i64 d) = wf at *
                have cB := fun i => blk_cell VB.out i
                have c2 := fun i => blk_cell V2.out i
                have f2 := fun i => blk_frozen V2.out i
                simp only [ndCs, zeroNd] at cB c2
                go_wp2_with (fail)
                ((try simp only [Exit.inBlock, Exit.then]); refine bodyPost_ret (by simp [results, Tryd.results92, go_sem, *]; try rfl) rfl ?_)
                exact post_set (b := w.heap.size + 1 + 1) VN.out hl' VR.out VK.out hg hT (by omega) (by show w.heap.size + 1 + 1 < _; omega) (fun j q => by show j < _; omega)
              · exact hq.elim
end Go.Proofs.YtfgogfdbjbnlbaaDoor.PExpr
end
