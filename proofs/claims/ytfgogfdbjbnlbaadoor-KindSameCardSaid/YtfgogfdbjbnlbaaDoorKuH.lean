/- What the claim of CardKindFinds needs, out of the session's texts, in their order. -/
import Derived.Test.YtfgogfdbjbnlbaaDoorKuG
import Derived.Lib.SliceRun
import Derived.Deep.Upon
section
namespace Go.Proofs.YtfgogfdbjbnlbaaDoor.PExpr
open Go.RowKit Go.Proofs.YtfgogfdbjbnlbaaDoorW.PrintWords Go.Proofs.YtfgogfdbjbnlbaaDoorW.PrintLast Go.Proofs.YtfgogfdbjbnlbaaDoorW.PrintMore
set_option linter.unusedVariables false
set_option linter.unusedSimpArgs false
def ptCs (p : Pt) : List Value := [.int .i64 p.f0, .string p.f1, .int .i64 p.f2]
def flatP (ps : List Pt) : List Value := ps.flatMap ptCs
abbrev OwnP (base : Nat) (w : World) (v : Value) (n : Nat) (ps : List Pt) : Prop := w.ownsRow base 109 3 v n (flatP ps)
theorem flatP_length (ps : List Pt) : (flatP ps).length = ps.length * 3 := by
  unfold flatP
  induction ps with
  | nil => rfl
  | cons k r ih => rw [List.flatMap_cons, List.length_append, ih, List.length_cons]; simp [ptCs]; omega
theorem flatP_cons (p : Pt) (r : List Pt) : flatP (p :: r) = ptCs p ++ flatP r := by unfold flatP; rw [List.flatMap_cons]
theorem flatP_get (ps : List Pt) : ∀ (j i : Nat) (p : Pt), ps[j]? = some p → i < 3 → (flatP ps)[j * 3 + i]? = (ptCs p)[i]? := by
  induction ps with
  | nil => intro j i p h; simp at h
  | cons a r ih =>
    intro j i p h hi
    have el : (ptCs a).length = 3 := rfl
    rw [flatP_cons]
    cases j with
    | zero =>
      obtain rfl := Option.some.inj (show some a = some p from h)
      rw [Nat.zero_mul, Nat.zero_add, List.getElem?_append_left (by rw [el]; exact hi)]
    | succ j =>
      rw [List.getElem?_append_right (by rw [el]; omega), el, show (j + 1) * 3 + i - 3 = j * 3 + i by omega]
      exact ih j i p (by simpa using h) hi
theorem flatP_set (ps : List Pt) : ∀ (i : Nat) (p : Pt), i < ps.length → (((flatP ps).set (i * 3) (.int .i64 p.f0)).set (i * 3 + 1) (.string p.f1)).set (i * 3 + 2) (.int .i64 p.f2) = flatP (ps.set i p) := by
  induction ps with
  | nil => intro i p h; simp at h
  | cons a r ih =>
    intro i p h
    cases i with
    | zero =>
      rw [List.set_cons_zero, flatP_cons, flatP_cons]
      rfl
    | succ i =>
      rw [List.set_cons_succ, flatP_cons, flatP_cons, ← ih i p (by simpa using h)]
      have el : (ptCs a).length = 3 := rfl
      rw [List.set_append_right _ _ (by rw [el]; omega), List.set_append_right _ _ (by rw [el]; omega), List.set_append_right _ _ (by rw [el]; omega), el]
      rw [show (i + 1) * 3 - 3 = i * 3 by omega, show (i + 1) * 3 + 1 - 3 = i * 3 + 1 by omega, show (i + 1) * 3 + 2 - 3 = i * 3 + 2 by omega]
theorem flatP_take (ps : List Pt) : ∀ i, (flatP ps).take (i * 3) = flatP (ps.take i) := by
  induction ps with
  | nil => intro i; simp [flatP]
  | cons a r ih =>
    intro i
    cases i with
    | zero => simp [flatP]
    | succ i =>
      have el : (ptCs a).length = 3 := rfl
      rw [List.take_succ_cons, flatP_cons, flatP_cons, ← ih i, List.take_append, el, show (i + 1) * 3 - 3 = i * 3 by omega, List.take_of_length_le (by rw [el]; omega)]
theorem OwnP.at {base G cap n : Nat} {w : World} {ps : List Pt} (h : OwnP base w (.slice (some ⟨G, 0, none⟩) n cap) n ps) (hn : n = ps.length) {j : Nat} {p : Pt} (hj : ps[j]? = some p) : w.cell? ⟨G, j * 3, none⟩ = some (.int .i64 p.f0) ∧ w.cell? ⟨G, j * 3 + 1, none⟩ = some (.string p.f1) ∧ w.cell? ⟨G, j * 3 + 2, none⟩ = some (.int .i64 p.f2) := by
  have hl := (List.getElem?_eq_some_iff.1 hj).1
  refine ⟨?_, ?_, ?_⟩
  · rw [h.cellAt (j * 3) (by omega)]
    exact flatP_get ps j 0 p hj (by omega)
  · rw [h.cellAt (j * 3 + 1) (by omega)]
    exact flatP_get ps j 1 p hj (by omega)
  · rw [h.cellAt (j * 3 + 2) (by omega)]
    exact flatP_get ps j 2 p hj (by omega)
theorem OwnP.same {base : Nat} {w w' : World} {v : Value} {n : Nat} {ps : List Pt} (h : OwnP base w v n ps) (hb : ∀ j, v.ownBlock = some j → w'.heap[j]? = w.heap[j]?) : OwnP base w' v n ps := by
  refine ⟨h.1, ?_⟩
  rcases h.2 with q | ⟨g, cap, cur, q1, q2, q3, q4⟩
  · exact .inl q
  · exact .inr ⟨g, cap, cur, q1, q2, by rw [hb g (by rw [q1]; rfl)]; exact q3, q4⟩
theorem OwnP.below {base : Nat} {w w' : World} {v : Value} {n : Nat} {ps : List Pt} (h : OwnP base w v n ps) (hb : Below w.heap.size w w') : OwnP base w' v n ps :=
  h.same fun j hj => hb.block j (h.lt j hj).2
theorem OwnP.put {base G cap n : Nat} {w : World} {ps : List Pt} (h : OwnP base w (.slice (some ⟨G, 0, none⟩) n cap) n ps) (hn : n = ps.length) (i : Nat) (hi : i < n) (p : Pt) :
    OwnP base (((w.setCell ⟨G, i * 3, none⟩ (.int .i64 p.f0)).setCell ⟨G, i * 3 + 1, none⟩ (.string p.f1)).setCell ⟨G, i * 3 + 2, none⟩ (.int .i64 p.f2)) (.slice (some ⟨G, 0, none⟩) n cap) n (ps.set i p) := by
  obtain ⟨o1, _⟩ := h.stored (i * 3) (.int .i64 p.f0)
  obtain ⟨o2, _⟩ := o1.stored (i * 3 + 1) (.string p.f1)
  obtain ⟨o3, _⟩ := o2.stored (i * 3 + 2) (.int .i64 p.f2)
  rw [flatP_set ps i p (by omega)] at o3
  exact o3
theorem setCells_block (b : Nat) : ∀ (vs : List Value) (o : Nat) (w : World) (cur : Array Value) (ty : TypeId), w.heap[b]? = some (.cells cur ty (0, 0)) → ∃ cur', (w.setCells b o vs).heap[b]? = some (.cells cur' ty (0, 0)) ∧ cur'.size = cur.size ∧ cur'.toList.take o = cur.toList.take o
  | [], o, w, cur, ty, h => ⟨cur, h, rfl, rfl⟩
  | v :: r, o, w, cur, ty, h => by
    obtain ⟨cur', h1, h2, h3⟩ := setCells_block b r (o + 1) (w.setCell ⟨b, o, none⟩ v) (cur.setIfInBounds o v) ty (heap_setCell_same w b o cur ty v h)
    refine ⟨cur', h1, by rw [h2]; simp, ?_⟩
    have e : cur'.toList.take o = (cur'.toList.take (o + 1)).take o := by rw [List.take_take]; congr 1; omega
    rw [e, h3, List.take_take, Nat.min_eq_left (by omega), Array.toList_setIfInBounds, List.take_set_of_le (Nat.le_refl o)]
theorem setCells_kept (b : Nat) : ∀ (vs : List Value) (o : Nat) (w : World), Kept (fun k => k = b) w (w.setCells b o vs)
  | [], o, w => Kept.refl _ w
  | v :: r, o, w => by
    have h := setCells_kept b r (o + 1) (w.setCell ⟨b, o, none⟩ v)
    exact Kept.trans ((Kept.refl _ w).setCell b o v (Or.inl rfl)) h (fun _ _ q => q)
theorem run_clear3 (w : World) (t e ty : TypeId) (z : Value) (m : Nat) (ht : Tryd.prog.underlying t = some (.slice e)) (hv : ∀ w, (zeroValue e).run Tryd.prog w = .ok z w) (h1 : ∀ v ∈ z.cells, v.oneCell' = true) (hz : 0 < z.cells.size) (b o n c : Nat) (hn : 0 < n)
    (hc : ∀ j, j < n * z.cells.size → (w.cell? ⟨b, o + j, none⟩).isSome = true) (hf : ∀ j, j < n * z.cells.size → w.frozen? ⟨b, o + j, none⟩ = false) :
    (Builtin.clear_ #[t] ty #[.slice (some ⟨b, o, none⟩) n c]).run Tryd.prog w = .ok (.tuple #[]) (w.setCells b o (Builtin.zeroCells z.cells n).toList) := by
  have hl : (Builtin.zeroCells z.cells n).toList.length = n * z.cells.size := by simp [Builtin.zeroCells]
  have hst := run_storeCells_cells (P := Tryd.prog) b o (Builtin.zeroCells z.cells n).toList 0 w (by rw [hl]; simpa using hc) (by rw [hl]; simpa using hf) (by
    intro v hv'
    simp only [Builtin.zeroCells, Array.toList_map, List.mem_map] at hv'
    obtain ⟨i, _, rfl⟩ := hv'
    have hlt : i % z.cells.size < z.cells.size := Nat.mod_lt _ hz
    rw [getElem!_pos z.cells _ hlt]
    exact h1 _ (Array.getElem_mem hlt))
  simp only [Nat.add_zero] at hst
  obtain ⟨m, rfl⟩ : ∃ m, n = m + 1 := ⟨n - 1, by omega⟩
  simp [Builtin.clear_, run_underlying ht, hv, hst]
end Go.Proofs.YtfgogfdbjbnlbaaDoor.PExpr
end
section
namespace Go.Proofs.YtfgogfdbjbnlbaaDoor.PExpr
open Go.RowKit Go.Proofs.YtfgogfdbjbnlbaaDoorW.PrintWords Go.Proofs.YtfgogfdbjbnlbaaDoorW.PrintLast Go.Proofs.YtfgogfdbjbnlbaaDoorW.PrintMore
set_option linter.unusedVariables false
set_option linter.unusedSimpArgs false
theorem infoPt : (Tryd.prog.info? 109).map (fun i => (i.zero, i.size, i.bytes)) = some (some (.agg #[(.int .i64 0), (.string ⟨#[]⟩), (.int .i64 0)]), 3, 32) := by kernel_rfl
theorem parts_news {w : World} {ad : Addr} {n : Nat} {l : List Pt} (h : Kd.C kPt w (some ad) n l) : ∀ j u, (flatP l)[j]? = some u → w.cell? (ad.add j) = some u := by
  intro j u hu
  have hj : j < (flatP l).length := (List.getElem?_eq_some_iff.1 hu).1
  rw [flatP_length] at hj
  obtain ⟨ad', e, hc⟩ := h.2.2 (by have := h.1; omega)
  obtain rfl := Option.some.inj e
  have hd : j / 3 < l.length := by omega
  obtain ⟨c, h1, h2, h3⟩ := hc (j / 3) _ (List.getElem?_eq_getElem hd)
  have := h3 (j % 3) u ?_
  · have es : (kPt).sz = 3 := rfl
    rw [es] at this
    rw [show j / 3 * 3 + j % 3 = j by omega] at this
    exact this
  · obtain rfl := k109_open h2
    have hg := flatP_get l (j / 3) (j % 3) _ (List.getElem?_eq_getElem hd) (by omega)
    rw [show j / 3 * 3 + j % 3 = j by omega, hu] at hg
    exact hg.symm
set_option maxHeartbeats 1000000 in
set_option maxRecDepth 100000 in
theorem clone_nil (c : Nat) (w : World) :
    Calls Tryd.prog 68 #[.slice none 0 c] w fun e w' => e = .returned (.slice none 0 0) ∧ w' = w := by
  have heq := fun (A : Option Addr) (n c : Nat) (W : World) => Lib.run_eql_slice_nil W 74 109 A n c 0 0 Tryd.underlying74
  go_enter Tryd.func68, Tryd.ntmps68
  go_wp2
  go_ret
  exact ⟨rfl, rfl⟩
set_option maxHeartbeats 1000000 in
set_option maxRecDepth 100000 in
theorem clone_row (ad : Addr) (n c : Nat) (l : List Pt) (w : World) (hC : Kd.C kPt w (some ad) n l) (hn : n = l.length) (hl : n ≤ 1000000) :
    Calls Tryd.prog 68 #[.slice (some ad) n c] w fun e w' => ∃ v', e = .returned v' ∧ OwnP w.heap.size w' v' n l ∧ Below w.heap.size w w' := by
  obtain ⟨i0, hi0, hz0, hz1, hz2⟩ := info_parts infoPt
  have HN := Aside0.mk (fun W : World => fun (hb : Below w.heap.size w W) => parts_news (Kd.C_below hC hb))
  have heq := fun (A : Option Addr) (n c : Nat) (W : World) => Lib.run_eql_slice_nil W 74 109 A n c 0 0 Tryd.underlying74
  go_enter Tryd.func68, Tryd.ntmps68
  go_wp2_with (at_builtin; refine wpList_append_own_at _ rfl _ _ 74 rfl w.heap.size 109 i0 _ 3 32 Tryd.underlying74 hi0 hz0 hz1 hz2 rfl (by decide) _ 0 [] rfl ?c0 ad n c (flatP l) rfl ?c1 ?c2 ?c3 ?c4 ?c5 ?c6 ?_)
  case c0 => exact World.ownsRow_lit (base := w.heap.size) (e := 109) (size := 3) w #[] 0 (Nat.le_refl _) (by decide) rfl
  case c1 => rw [flatP_length, hn]
  case c2 => exact HN.out _ (below_alloc (Below.refl _ _) _)
  case c3 =>
    intro u hu
    unfold flatP at hu
    obtain ⟨p, _, hp⟩ := List.mem_flatMap.1 hu
    simp only [ptCs, List.mem_cons, List.not_mem_nil, or_false] at hp
    rcases hp with rfl | rfl | rfl <;> rfl
  case c4 => unfold maxLen; omega
  case c5 => omega
  case c6 => simp
  intro v' w' hown' hgrow _ hat
  have hB : Below w.heap.size w w' := by
    have hb := below_alloc (Below.refl w.heap.size w) (.cells #[] 109)
    exact hb.grown hgrow (by simp) (fun k hk => by
      have : k = w.heap.size := by simpa [Value.ownBlock] using hk.symm
      omega)
  have HO := Aside0.mk hown'
  have HB := Aside0.mk hB
  clear hown' hgrow hat hB HN hC
  go_wp2_with (fail)
  go_ret
  refine ⟨_, rfl, ?_, HB.out⟩
  have := HO.out
  simpa [hn] using this
def FirstAt (ps : List Pt) (k : Int) (r : Int) : Prop := (r = -1 ∧ ∀ p ∈ ps, ¬ p.f2 < k) ∨ ∃ i : Nat, r = i ∧ (∀ p ∈ ps.take i, ¬ p.f2 < k) ∧ ∃ p, ps[i]? = some p ∧ p.f2 < k
set_option maxHeartbeats 1000000 in
set_option maxRecDepth 100000 in
theorem idx_nil (A : Option Addr) (c : Nat) (fv : Value) (w : World) :
    Calls Tryd.prog 73 #[.slice A 0 c, fv] w fun e w' => e = .returned (.int .i64 (-1)) ∧ w' = w := by
  go_enter Tryd.func73, Tryd.ntmps73
  go_wp2_with (fail)
  go_loopg [8] 0 (fun kq v8 w' => v8 = .int .i64 0 ∧ w' = w)
  case atStart => exact ⟨rfl, rfl⟩
  case round =>
    obtain ⟨rfl, rfl⟩ := hrel
    go_wp2
    go_ret
    exact ⟨rfl, rfl⟩
set_option maxHeartbeats 1000000 in
set_option maxRecDepth 100000 in
theorem idx_row (base G n cap bk : Nat) (k : Int) (ps : List Pt) (w : World) (hrow : OwnP base w (.slice (some ⟨G, 0, none⟩) n cap) n ps) (hn : n = ps.length) (hl : n ≤ 1000000) (hk : w.cell? ⟨bk, 0, none⟩ = some (.int .i64 k)) (hbk : bk < w.heap.size) :
    Calls Tryd.prog 73 #[.slice (some ⟨G, 0, none⟩) n cap, .func (.func 69) #[] #[.pointer (some ⟨bk, 0, none⟩)]] w fun e w' => ∃ r, e = .returned (.int .i64 r) ∧ FirstAt ps k r ∧ Below w.heap.size w w' := by
  have hF : ∀ args w, (callFunc 69 args).run Tryd.prog w = .ok (.enter 69 args) w := enters_of Tryd.func69 (by kernel_rfl) rfl
  have HR := Aside0.mk hrow
  have HK := Aside0.mk hk
  clear hrow hk
  have HNn := Aside0.mk hn
  clear hn
  go_enter Tryd.func73, Tryd.ntmps73
  go_wp2_with (fail)
  go_loopg [8] n (fun kq v8 w' => ∃ j : Nat, v8 = .int .i64 j ∧ j ≤ n ∧ Aside0 (kq + j = n) ∧ Aside0 (∀ p ∈ ps.take j, ¬ p.f2 < k) ∧ Aside0 (Below w.heap.size w w'))
  case atStart => exact ⟨0, rfl, Nat.zero_le _, ⟨rfl⟩, ⟨by simp⟩, ⟨Below.refl _ _⟩⟩
  case round =>
    obtain ⟨j, rfl, hj, HKq, HP, HB⟩ := hrel
    by_cases hlt : j < n
    · have hjl : j < ps.length := by rw [← HNn.out]; exact hlt
      have hgj := List.getElem?_eq_getElem hjl
      have HG := Aside0.mk hgj
      have hrw := HR.out.below HB.out
      obtain ⟨x0, x1, x2⟩ := hrw.at HNn.out hgj
      generalize ps[j] = p at hgj HG x0 x1 x2
      have hc := ahead_calls p k bk wr (by rw [HB.out.cell hbk]; exact HK.out) (by have := HB.out.size; omega)
      unfold ptV at hc
      have HC := Aside0.mk hc
      clear hc hrw hgj
      have hltI : (j : Int) < (n : Int) := by omega
      have h0I : (0 : Int) ≤ (j : Int) := by omega
      have hwj : wrap64 ((j : Int) + 1) = (j : Int) + 1 := by unfold wrap64; omega
      have hwj2 : IntKind.i64.wrap ((j : Int) + 1) = (j : Int) + 1 := by rw [i64_w]; exact hwj
      cases hp : decide (p.f2 < k)
      · go_wp2_with (go_at_fn 69; refine HC.out.mono ?_; rintro e w2 ⟨rfl, hb⟩; rw [hp]; have HB2 := Aside0.mk (below_step HB.out hb); clear hb)
        go_roundg (n - (j + 1))
        case measure => have := HKq.out; omega
        case rel =>
          refine ⟨j + 1, by simp, by omega, ⟨by omega⟩, ⟨?_⟩, HB2⟩
          intro q hq
          rw [List.take_add_one, HG.out] at hq
          rcases List.mem_append.1 hq with hq | hq
          · exact HP.out q hq
          · have : q = p := by simpa using hq
            subst this
            simpa using hp
      · go_wp2_with (go_at_fn 69; refine HC.out.mono ?_; rintro e w2 ⟨rfl, hb⟩; rw [hp]; have HB2 := Aside0.mk (below_step HB.out hb); clear hb)
        go_ret
        exact ⟨_, rfl, Or.inr ⟨j, rfl, fun q hq => by have := HP.out q hq; omega, p, HG.out, by simpa using hp⟩, HB2.out⟩
    · have hjn : j = n := by omega
      subst hjn
      go_wp2_with (fail)
      go_ret
      refine ⟨_, rfl, Or.inl ⟨rfl, ?_⟩, HB.out⟩
      have h1 := HP.out
      rw [HNn.out, List.take_length] at h1
      exact fun q hq => by have := h1 q hq; omega
end Go.Proofs.YtfgogfdbjbnlbaaDoor.PExpr
end
section
namespace Go.Proofs.YtfgogfdbjbnlbaaDoor.PExpr
open Go.RowKit Go.Proofs.YtfgogfdbjbnlbaaDoorW.PrintWords Go.Proofs.YtfgogfdbjbnlbaaDoorW.PrintLast Go.Proofs.YtfgogfdbjbnlbaaDoorW.PrintMore
set_option linter.unusedVariables false
set_option linter.unusedSimpArgs false
def behind (k : Int) (ps : List Pt) : List Pt := ps.filter fun p => !decide (p.f2 < k)
theorem behind_all {k : Int} {ps : List Pt} (h : ∀ p ∈ ps, ¬ p.f2 < k) : behind k ps = ps := by
  unfold behind
  rw [List.filter_eq_self]
  intro p hp
  simpa using h p hp
set_option maxHeartbeats 1000000 in
set_option maxRecDepth 100000 in
theorem delete_nil (A : Option Addr) (c : Nat) (fv : Value) (w : World) :
    Calls Tryd.prog 67 #[.slice A 0 c, fv] w fun e w' => e = .returned (.slice A 0 c) ∧ w' = w := by
  go_enter Tryd.func67, Tryd.ntmps67
  go_wp2_with (go_at_call 73; refine (idx_nil A c fv _).mono ?_; rintro e w' ⟨rfl, rfl⟩)
  go_ret
  exact ⟨rfl, rfl⟩
theorem wrap_nat {j n : Nat} (h : j < n) (hn : n ≤ 1000000) : wrap64 ((j : Int) + 1) = (j : Int) + 1 ∧ IntKind.i64.wrap ((j : Int) + 1) = (j : Int) + 1 := by
  rw [i64_w]
  unfold wrap64
  omega
def DelInv (base G n cap bk : Nat) (k : Int) (ps : List Pt) (w : World) (i j : Nat) (w' : World) : Prop :=
  ∃ qs : List Pt, i < j ∧ j ≤ n ∧ qs.length = n ∧ qs.take i = behind k (ps.take j) ∧ qs.drop j = ps.drop j ∧ OwnP base w' (.slice (some ⟨G, 0, none⟩) n cap) n qs ∧ Kept (fun k => k = G) w w'
theorem take_set_succ (qs : List Pt) (i : Nat) (p : Pt) (h : i < qs.length) : (qs.set i p).take (i + 1) = qs.take i ++ [p] := by
  rw [List.take_add_one, List.take_set_of_le (Nat.le_refl i)]
  simp [h]
theorem behind_succ (k : Int) (ps : List Pt) (j : Nat) (p : Pt) (h : ps[j]? = some p) : behind k (ps.take (j + 1)) = if p.f2 < k then behind k (ps.take j) else behind k (ps.take j) ++ [p] := by
  unfold behind
  rw [List.take_add_one, h, List.filter_append]
  by_cases hp : p.f2 < k
  · simp [hp]
  · simp [hp]
theorem step_le {n g j : Nat} (h : n ≤ g + 1 + j) : n ≤ g + (j + 1) := by omega
theorem int_succ (j : Nat) : Value.int .i64 ((j : Int) + 1) = Value.int .i64 ((j + 1 : Nat) : Int) := by simp
theorem drop_more {α : Type} {qs ps : List α} {j : Nat} (h : qs.drop j = ps.drop j) : qs.drop (j + 1) = ps.drop (j + 1) := by
  have h1 := congrArg (List.drop 1) h
  rw [List.drop_drop, List.drop_drop] at h1
  exact h1
theorem DelInv.keep {base G n cap bk : Nat} {k : Int} {ps qs : List Pt} {w w2 : World} {i j : Nat} {p : Pt} (hij : i < j) (hlt : j < n) (hql : qs.length = n) (h1 : qs.take i = behind k (ps.take j)) (h2 : qs.drop j = ps.drop j) (hg : ps[j]? = some p) (hp : ¬ p.f2 < k)
    (ho : OwnP base w2 (.slice (some ⟨G, 0, none⟩) n cap) n (qs.set i p)) (hk : Kept (fun k => k = G) w w2) : DelInv base G n cap bk k ps w (i + 1) (j + 1) w2 := by
  refine ⟨qs.set i p, by omega, by omega, by rw [List.length_set]; exact hql, ?_, ?_, ho, hk⟩
  · rw [take_set_succ qs i p (by omega), h1, behind_succ k ps j p hg, if_neg hp]
  · rw [List.drop_set_of_lt (by omega)]
    exact drop_more h2
theorem DelInv.pass {base G n cap bk : Nat} {k : Int} {ps qs : List Pt} {w w2 : World} {i j : Nat} {p : Pt} (hij : i < j) (hlt : j < n) (hql : qs.length = n) (h1 : qs.take i = behind k (ps.take j)) (h2 : qs.drop j = ps.drop j) (hg : ps[j]? = some p) (hp : p.f2 < k)
    (ho : OwnP base w2 (.slice (some ⟨G, 0, none⟩) n cap) n qs) (hk : Kept (fun k => k = G) w w2) : DelInv base G n cap bk k ps w i (j + 1) w2 := by
  refine ⟨qs, by omega, by omega, hql, ?_, drop_more h2, ho, hk⟩
  rw [h1, behind_succ k ps j p hg, if_pos hp]
theorem clear_part (w : World) (G o n c : Nat) (hn : 0 < n) (hc : ∀ j, j < n * 3 → (w.cell? ⟨G, o + j, none⟩).isSome = true) (hf : ∀ j, j < n * 3 → w.frozen? ⟨G, o + j, none⟩ = false) :
    (Builtin.clear_ #[74] 0 #[.slice (some ⟨G, o, none⟩) n c]).run Tryd.prog w = .ok (.tuple #[]) (w.setCells G o (Builtin.zeroCells (Value.cells (.agg #[(.int .i64 0), (.string ⟨#[]⟩), (.int .i64 0)])) n).toList) := by
  refine run_clear3 w 74 109 0 (.agg #[(.int .i64 0), (.string ⟨#[]⟩), (.int .i64 0)]) 0 Tryd.underlying74 ?_ ?_ ?_ G o n c hn hc hf
  · exact Tryd.zeroValue109
  · intro v hv
    simp only [Value.cells] at hv
    simp at hv
    rcases hv with rfl | rfl | rfl <;> rfl
  · exact (by decide : 0 < 3)
set_option maxHeartbeats 2000000 in
set_option maxRecDepth 100000 in
theorem delete_row (base G n cap bk : Nat) (k : Int) (ps : List Pt) (w : World) (hrow : OwnP base w (.slice (some ⟨G, 0, none⟩) n cap) n ps) (hn : n = ps.length) (hl : n ≤ 1000000) (hcap : n ≤ cap) (hk : w.cell? ⟨bk, 0, none⟩ = some (.int .i64 k)) (hbk : bk < w.heap.size) (hne : bk ≠ G) (hGl : G < w.heap.size) :
    Calls Tryd.prog 67 #[.slice (some ⟨G, 0, none⟩) n cap, .func (.func 69) #[] #[.pointer (some ⟨bk, 0, none⟩)]] w fun e w' =>
      ∃ m, e = .returned (.slice (some ⟨G, 0, none⟩) m cap) ∧ m = (behind k ps).length ∧ OwnP base w' (.slice (some ⟨G, 0, none⟩) m cap) m (behind k ps) ∧ Kept (fun k => k = G) w w' := by
  have hF : ∀ args w, (callFunc 69 args).run Tryd.prog w = .ok (.enter 69 args) w := enters_of Tryd.func69 (by kernel_rfl) rfl
  have HR := Aside0.mk hrow
  have HK := Aside0.mk hk
  have HL := Aside0.mk hl
  clear hl
  have hcapI : (n : Int) ≤ (cap : Int) := by omega
  clear hrow hk
  have HNn := Aside0.mk hn
  clear hn
  go_enter Tryd.func67, Tryd.ntmps67
  go_wp2_with (fail)
  refine (idx_row base G n cap bk k ps w HR.out HNn.out HL.out HK.out hbk).mono ?_
  rintro e w1 ⟨r, rfl, hf, hb1⟩
  have HB1 := Aside0.mk hb1
  clear hb1
  rcases hf with ⟨rfl, hall⟩ | ⟨i, rfl, hbef, p, hgi, hp⟩
  · have HA := Aside0.mk (behind_all hall)
    clear hall
    go_wp2_with (fail)
    go_ret
    refine ⟨n, rfl, ?_, ?_, (Kept.refl _ w).below HB1.out⟩
    · rw [HA.out]
      exact HNn.out
    · rw [HA.out]
      exact HR.out.below HB1.out
  · have hil : i < n := by rw [HNn.out]; exact (List.getElem?_eq_some_iff.1 hgi).1
    have hne1 : ¬ (i : Int) = -1 := by omega
    obtain ⟨hwi, hwi2⟩ := wrap_nat hil HL.out
    have HI := Aside0.mk (show DelInv base G n cap bk k ps w i (i + 1) w1 from ⟨ps, by omega, by omega, HNn.out.symm, by rw [behind_succ k ps i p hgi, if_pos hp, behind_all hbef], rfl, HR.out.below HB1.out, (Kept.refl _ w).below HB1.out⟩)
    clear hgi hbef hp HB1 HR
    go_wp2_with (fail)
    go_loopg [5, 6] n (fun kq v5 v6 w' => ∃ i j : Nat, v5 = .int .i64 i ∧ v6 = .int .i64 j ∧ Aside0 (n ≤ kq + j) ∧ Aside0 (DelInv base G n cap bk k ps w i j w'))
    case atStart => exact ⟨i, i + 1, rfl, by simp, ⟨by omega⟩, HI⟩
    case round =>
      obtain ⟨i, j, rfl, rfl, HKq, HD⟩ := hrel
      clear HI
      obtain ⟨qs, hij, hjn, hql, hqt, hqd, hqo, hqk⟩ := HD.out
      have HO := Aside0.mk hqo
      have HKp := Aside0.mk hqk
      have HQ := Aside0.mk (And.intro hql (And.intro hqt hqd))
      clear HD hqo hqk hqt hqd
      have hsw := HKp.out.size
      have hbkw : bk < wr.heap.size := by omega
      have hGw : G < wr.heap.size := by omega
      have hbkc := Aside0.mk ((HKp.out.cell (p := ⟨bk, 0, none⟩) hbk hne).trans HK.out)
      by_cases hlt : j < n
      · have hjl : j < ps.length := by rw [← HNn.out]; exact hlt
        have hgj := List.getElem?_eq_getElem hjl
        generalize ps[j] = p at hgj
        have hqj : qs[j]? = some p := by
          have h1 : (qs.drop j)[0]? = (ps.drop j)[0]? := by rw [HQ.out.2.2]
          rw [List.getElem?_drop, List.getElem?_drop, Nat.add_zero, hgj] at h1
          exact h1
        have HG := Aside0.mk hgj
        have HQj := Aside0.mk hqj
        obtain ⟨x0, x1, x2⟩ := HO.out.at hql.symm hqj
        obtain ⟨pi, hqi⟩ : ∃ pi, qs[i]? = some pi := ⟨qs[i]'(by omega), List.getElem?_eq_getElem _⟩
        have HQi := Aside0.mk hqi
        clear hqi
        have hc := ahead_calls p k bk (wr.alloc (.cells #[.int .i64 p.f0, .string p.f1, .int .i64 p.f2] 109)) (by rw [(below_alloc (Below.refl wr.heap.size wr) _).cell hbkw]; exact hbkc.out) (by simp; omega)
        unfold ptV at hc
        have HC := Aside0.mk hc
        clear hc hqj hgj
        obtain ⟨gk, rfl⟩ : ∃ q, gk = q + 1 := ⟨gk - 1, by have := HKq.out; omega⟩
        have hltI : (j : Int) < (n : Int) := by omega
        have h0I : (0 : Int) ≤ (j : Int) := by omega
        have hiI : (i : Int) < (n : Int) := by omega
        have hi0I : (0 : Int) ≤ (i : Int) := by omega
        obtain ⟨hwj, hwj2⟩ := wrap_nat hlt HL.out
        obtain ⟨hwi, hwi2⟩ := wrap_nat (Nat.lt_trans hij hlt) HL.out
        cases hp : decide (p.f2 < k)
        · go_wp2_with (go_at_fn 69; refine HC.out.mono ?_; rintro e w2 ⟨rfl, hb⟩; rw [hp]; have HB2 := Aside0.mk hb; clear hb; have c7 := fun i => blk_cell (blk_below (heap_alloc_new wr _) HB2.out) i; have HO2 := Aside0.mk (OwnP.below (World.ownsRow.alloc HO.out (.cells #[.int .i64 p.f0, .string p.f1, .int .i64 p.f2] 109)) HB2.out); obtain ⟨y0, y1, y2⟩ := HO2.out.at hql.symm HQi.out; have fz := fun i => World.ownsRow.frozenAt HO2.out i)
          go_roundg gk
          case measure => omega
          case rel =>
            have hk2 : Kept (fun k => k = G) w w2 := (HKp.out.alloc _).below HB2.out
            have hpn : ¬ p.f2 < k := by simpa using hp
            have hI2 := DelInv.keep (base := base) (cap := cap) (bk := bk) (w := w) (w2 := ((w2.setCell ⟨G, i * 3, none⟩ (.int .i64 p.f0)).setCell ⟨G, i * 3 + 1, none⟩ (.string p.f1)).setCell ⟨G, i * 3 + 2, none⟩ (.int .i64 p.f2)) hij hlt hql HQ.out.2.1 HQ.out.2.2 HG.out hpn (OwnP.put HO2.out hql.symm i (Nat.lt_trans hij hlt) p) (((hk2.setCell _ _ _ (Or.inl rfl)).setCell _ _ _ (Or.inl rfl)).setCell _ _ _ (Or.inl rfl))
            exact ⟨i + 1, j + 1, int_succ i, int_succ j, ⟨step_le HKq.out⟩, ⟨hI2⟩⟩
        · go_wp2_with (go_at_fn 69; refine HC.out.mono ?_; rintro e w2 ⟨rfl, hb⟩; rw [hp]; have HB2 := Aside0.mk hb; clear hb)
          go_roundg gk
          case measure => omega
          case rel =>
            have hk2 : Kept (fun k => k = G) w w2 := (HKp.out.alloc _).below HB2.out
            have hpn : p.f2 < k := by simpa using hp
            have hI2 := DelInv.pass (base := base) (cap := cap) (bk := bk) (w := w) hij hlt hql HQ.out.2.1 HQ.out.2.2 HG.out hpn (OwnP.below (World.ownsRow.alloc HO.out (.cells #[.int .i64 p.f0, .string p.f1, .int .i64 p.f2] 109)) HB2.out) hk2
            exact ⟨i, j + 1, rfl, int_succ j, ⟨step_le HKq.out⟩, ⟨hI2⟩⟩
      · have hjn : j = n := by omega
        subst hjn
        have hcl := clear_part wr G (i * 3) (j - i) (cap - i) (by omega) (fun q hq => by
          have hql' := (List.getElem?_eq_getElem (l := flatP qs) (i := i * 3 + q) (by rw [flatP_length]; omega))
          rw [World.ownsRow.cellAt HO.out (i * 3 + q) (by omega), hql']
          rfl) (fun q hq => World.ownsRow.frozenAt HO.out _)
        have hltI : ¬ (j : Int) < (j : Int) := by omega
        have hiI : (i : Int) ≤ (j : Int) := by omega
        have hi0I : (0 : Int) ≤ (i : Int) := by omega
        have hci : ¬ cap = i := by omega
        go_wp2_with (fail)
        go_ret
        have hlen : i = (behind k ps).length := by
          have h1 := congrArg List.length HQ.out.2.1
          rw [List.length_take, Nat.min_eq_left (by omega)] at h1
          rw [HNn.out, List.take_length] at h1
          exact h1
        refine ⟨i, rfl, hlen, ?_, Kept.trans HKp.out (setCells_kept G _ _ _) (fun _ _ q => q)⟩
        have hqe : flatP (behind k ps) = flatP (qs.take i) := by
          rw [HQ.out.2.1, HNn.out, List.take_length]
        rcases HO.out.2 with ⟨q1, _⟩ | ⟨g', cap', cur, q1, q2, q3, q4, q5, q6, q7⟩
        · cases q1
        · injection q1 with q1 _ q8
          injection q1 with q1
          injection q1 with q1 _ _
          subst q1
          subst q8
          obtain ⟨cur', s1, s2, s3⟩ := setCells_block G _ (i * 3) wr cur 109 q3
          refine ⟨by rw [flatP_length]; omega, .inr ⟨G, cap, cur', rfl, q2, s1, by omega, q5, by rw [s2]; exact q6, ?_⟩⟩
          rw [s3, hqe, ← flatP_take, ← q7, List.take_take, Nat.min_eq_left (by omega)]
end Go.Proofs.YtfgogfdbjbnlbaaDoor.PExpr
end
section
namespace Go.Proofs.YtfgogfdbjbnlbaaDoor.PExpr
open Go.RowKit Go.Proofs.YtfgogfdbjbnlbaaDoorW.PrintWords Go.Proofs.YtfgogfdbjbnlbaaDoorW.PrintLast Go.Proofs.YtfgogfdbjbnlbaaDoorW.PrintMore
set_option linter.unusedVariables false
set_option linter.unusedSimpArgs false
def hasQ (s : ByteArray) : Bool := if 1 ≤ s.size then (s.extract 0 1).toList == sQuote.toList else false
theorem hasQ_calls (s : ByteArray) (w : World) : Calls Tryd.prog 64 #[.string s, .string sQuote] w fun e w' => e = .returned (.bool (hasQ s)) ∧ Drawn0 w w' := by
  refine strings_HasPrefix.calls s sQuote (hasQ s) w ?_
  unfold strings_HasPrefix.f stringslite_HasPrefix.f hasQ
  have e : (sQuote.size : Int) = 1 := rfl
  simp only [e]
  by_cases h3 : 1 ≤ s.size
  · rw [if_pos (by omega), if_pos (by omega), if_pos (by omega), if_pos h3]
    rfl
  · rw [if_neg (by omega), if_neg h3]
    rfl
def quoteL (s : ByteArray) : Nat → List UInt8 → Nat → Option (Option (List UInt8 × Nat))
  | 0, _, _ => none
  | f + 1, acc, k =>
    if quoteAt (s.extract k s.size) < 0 then some none
    else if hasQ (s.extract (k + (quoteAt (s.extract k s.size)).toNat + 1) s.size) = true then
      quoteL s f (acc ++ ((s.extract k s.size).extract 0 (quoteAt (s.extract k s.size)).toNat).data.toList ++ [39]) (k + (quoteAt (s.extract k s.size)).toNat + 1 + 1)
    else some (some (acc ++ ((s.extract k s.size).extract 0 (quoteAt (s.extract k s.size)).toNat).data.toList, k + (quoteAt (s.extract k s.size)).toNat + 1))
theorem OwnP.kd {base : Nat} {w : World} {A : Option Addr} {n c : Nat} {ps : List Pt} (h : OwnP base w (.slice A n c) n ps) (hn : n = ps.length) : Kd.C kPt w A ps.length ps := by
  rcases h.2 with ⟨q1, q2⟩ | ⟨g, cap, cur, q1, q2, q3, q4, q5, q6, q7⟩
  · have : ps = [] := by
      have : ps.length = 0 := by omega
      simpa using this
    subst this
    injection q1 with q1 _ _
    subst q1
    exact ⟨rfl, by simp, fun q => absurd q (by simp)⟩
  · have h' := h
    injection q1 with q1 _ q8
    subst q1
    subst q8
    refine ⟨rfl, by simp [maxLen] at q5; omega, fun _ => ⟨_, rfl, fun j p hj => ?_⟩⟩
    obtain ⟨x0, x1, x2⟩ := h'.at hn hj
    refine ⟨_, rfl, k109_mk w p, fun i u hu => ?_⟩
    have es : (kPt).sz = 3 := rfl
    rw [es, add_plain]
    try rw [Nat.zero_add]
    match i, hu with
    | 0, hu =>
      obtain rfl := Option.some.inj hu
      exact x0
    | 1, hu =>
      obtain rfl := Option.some.inj hu
      exact x1
    | 2, hu =>
      obtain rfl := Option.some.inj hu
      exact x2
theorem lx_set {base g : Nat} {w : World} {s : ByteArray} {x : Value} {A : Option Addr} {m c : Nat} {qs : List Pt} (hb : w.heap[g]? = some (.cells #[.string s, x] 81 (0, 0))) (hg : g < base) (ho : OwnP base w (.slice A m c) m qs) (hm : m = qs.length) (hc : m ≤ c) :
    ∃ T', Lx g T' (w.setCell ⟨g, 1, none⟩ (.slice A m c)) s qs ∧ (qs ≠ [] → ∃ cur, (w.setCell ⟨g, 1, none⟩ (.slice A m c)).heap[T']? = some (.cells cur 109 (0, 0))) := by
  have hf := ho.lt
  have ho' : OwnP base (w.setCell ⟨g, 1, none⟩ (.slice A m c)) (.slice A m c) m qs := ho.same fun j hj => Below.heap_setCell w ⟨g, 1, none⟩ _ j (fun q => by have := (hf j hj).1; have q' : j = g := q; omega)
  have hk := ho'.kd hm
  have hb' := blk_set hb 1 (.slice A m c)
  have hA : qs ≠ [] → ∃ G, A = some ⟨G, 0, none⟩ ∧ base ≤ G ∧ ∃ cur, w.heap[G]? = some (.cells cur 109 (0, 0)) := fun q => by
    rcases ho.2 with ⟨q1, q2⟩ | ⟨g', cap, cur, q1, q2, q3, _⟩
    · exact absurd (by have : qs.length = 0 := by omega
                       simpa using this) q
    · injection q1 with q1 _ _
      exact ⟨g', q1, q2, cur, q3⟩
  cases qs with
  | nil => exact ⟨g + 1, ⟨A, c, by rw [hb', hm]; rfl, by simp, by omega, fun q => absurd rfl q, hk⟩, fun q => absurd rfl q⟩
  | cons p r =>
    obtain ⟨G, rfl, hG, cur, hcur⟩ := hA (by simp)
    exact ⟨G, ⟨_, c, by rw [hb', hm]; rfl, by omega, by omega, fun _ => ⟨0, rfl⟩, hk⟩, fun _ => ⟨cur, blk_setO hcur (by omega)⟩⟩
theorem Lx.same {g T : Nat} {w w' : World} {s : ByteArray} {l : List Pt} (h : Lx g T w s l) (hg : w'.heap[g]? = w.heap[g]?) (hT : l ≠ [] → w'.heap[T]? = w.heap[T]?) : Lx g T w' s l := by
  obtain ⟨A, c, hb, hl, hTg, hA, hC⟩ := h
  refine ⟨A, c, by rw [hg]; exact hb, hl, hTg, hA, ?_⟩
  cases l with
  | nil => exact ⟨hC.1, hC.2.1, fun q => absurd q (by simp)⟩
  | cons p r => exact parts_same hC hA (hT (by simp))
def LxT (g : Nat) (w : World) (s : ByteArray) (l : List Pt) : Prop := ∃ T, Lx g T w s l ∧ (l ≠ [] → ∃ cur, w.heap[T]? = some (.cells cur 109 (0, 0)))
theorem LxT.kept {g : Nat} {w w' : World} {s : ByteArray} {l : List Pt} {S : Nat → Prop} (h : LxT g w s l) (k : Kept S w w') (hg : ¬ S g) (hS : ∀ j cur, w.heap[j]? = some (.cells cur 109 (0, 0)) → ¬ S j) : LxT g w' s l := by
  obtain ⟨T, hL, hT⟩ := h
  refine ⟨T, hL.same (k.block g hL.lt hg) (fun q => ?_), fun q => ?_⟩
  · obtain ⟨cur, hc⟩ := hT q
    exact k.block T (blk_lt hc) (hS T cur hc)
  · obtain ⟨cur, hc⟩ := hT q
    exact ⟨cur, k.blk hc (hS T cur hc)⟩
theorem LxT.below {g : Nat} {w w' : World} {s : ByteArray} {l : List Pt} (h : LxT g w s l) (hb : Below w.heap.size w w') : LxT g w' s l := by
  obtain ⟨T, hL, hT⟩ := h
  refine ⟨T, hL.below hb, fun q => ?_⟩
  obtain ⟨cur, hc⟩ := hT q
  exact ⟨cur, blk_below hc hb⟩
theorem LxT.lt {g : Nat} {w : World} {s : ByteArray} {l : List Pt} (h : LxT g w s l) : g < w.heap.size := by
  obtain ⟨T, hL, _⟩ := h
  exact hL.lt
theorem kept_of_below {B : Nat} {a b : World} (h : Below B a b) : Kept (fun k => B ≤ k) a b := ⟨h.os, h.tape, h.output, h.size, fun k _ hn => h.block k (by omega)⟩
end Go.Proofs.YtfgogfdbjbnlbaaDoor.PExpr
end
section
namespace Go.Proofs.YtfgogfdbjbnlbaaDoor.PExpr
open Go.RowKit Go.Proofs.YtfgogfdbjbnlbaaDoorW.PrintWords Go.Proofs.YtfgogfdbjbnlbaaDoorW.PrintLast Go.Proofs.YtfgogfdbjbnlbaaDoorW.PrintMore
set_option linter.unusedVariables false
set_option linter.unusedSimpArgs false
theorem OwnP.form {base : Nat} {w : World} {v : Value} {n : Nat} {ps : List Pt} (h : OwnP base w v n ps) : ∃ A c, v = .slice A n c ∧ n ≤ c := by
  rcases h.2 with ⟨q1, q2⟩ | ⟨g, cap, cur, q1, q2, q3, q4, _⟩
  · exact ⟨none, 0, by rw [q1, q2], by omega⟩
  · exact ⟨_, cap, q1, q4⟩
theorem clone_any (A : Option Addr) (n c : Nat) (l : List Pt) (w : World) (hC : Kd.C kPt w A n l) (hn : n = l.length) (hl : n ≤ 1000000) :
    Calls Tryd.prog 68 #[.slice A n c] w fun e w' => ∃ A' c', e = .returned (.slice A' n c') ∧ OwnP w.heap.size w' (.slice A' n c') n l ∧ n ≤ c' ∧ Below w.heap.size w w' := by
  cases A with
  | none =>
    have h0 : n = 0 := by
      rcases Nat.eq_zero_or_pos n with q | q
      · exact q
      · obtain ⟨ad, e, _⟩ := hC.2.2 q
        cases e
    subst h0
    have hl0 : l = [] := by simpa using hn.symm
    subst hl0
    refine (clone_nil c w).mono ?_
    rintro e w' ⟨rfl, rfl⟩
    exact ⟨none, 0, rfl, World.ownsRow_nil _ _ _ _, Nat.le_refl _, Below.refl _ _⟩
  | some ad =>
    refine (clone_row ad n c l w hC hn hl).mono ?_
    rintro e w' ⟨v', rfl, ho, hb⟩
    obtain ⟨A', c', rfl, hc⟩ := ho.form
    exact ⟨A', c', rfl, ho, hc, hb⟩
theorem delete_any (base : Nat) (A : Option Addr) (n cap bk : Nat) (k : Int) (ps : List Pt) (w : World) (hrow : OwnP base w (.slice A n cap) n ps) (hn : n = ps.length) (hl : n ≤ 1000000) (hcap : n ≤ cap) (hk : w.cell? ⟨bk, 0, none⟩ = some (.int .i64 k)) (hbk : bk < base) (hbw : base ≤ w.heap.size) :
    Calls Tryd.prog 67 #[.slice A n cap, .func (.func 69) #[] #[.pointer (some ⟨bk, 0, none⟩)]] w fun e w' =>
      ∃ m c', e = .returned (.slice A m c') ∧ m = (behind k ps).length ∧ OwnP base w' (.slice A m c') m (behind k ps) ∧ m ≤ c' ∧ Below base w w' := by
  by_cases h0 : n = 0
  · subst h0
    have hps : ps = [] := by simpa using hn.symm
    subst hps
    refine (delete_nil A cap _ w).mono ?_
    rintro e w' ⟨rfl, rfl⟩
    exact ⟨0, cap, rfl, rfl, hrow, hcap, Below.refl _ _⟩
  · rcases hrow.2 with ⟨q1, q2⟩ | ⟨g, cap', cur, q1, q2, q3, _⟩
    · exact absurd q2 h0
    · injection q1 with q1 _ q8
      subst q1
      subst q8
      have hgl := (Array.getElem?_eq_some_iff.1 q3).1
      refine (delete_row base g n cap bk k ps w hrow hn hl hcap hk (by omega) (by omega) hgl).mono ?_
      rintro e w' ⟨m, rfl, hm, ho, hk'⟩
      obtain ⟨A', c', e', hc⟩ := ho.form
      injection e' with _ _ e'
      subst e'
      refine ⟨m, cap, rfl, hm, ho, hc, hk'.os, hk'.tape, hk'.output, hk'.size, fun j hj => hk'.block j (by omega) (by omega)⟩
theorem bytes_snoc (l : List UInt8) (s : ByteArray) : Lib.byteCells l ++ Lib.strCells s = Lib.byteCells (l ++ s.data.toList) := by
  unfold Lib.byteCells Lib.strCells
  rw [List.map_append]
theorem bytes_quote (l : List UInt8) : Lib.byteCells l ++ [.int .u8 39] = Lib.byteCells (l ++ [39]) := by
  unfold Lib.byteCells
  rw [List.map_append]
  rfl
theorem extract_tail (s : ByteArray) (k n : Nat) (hk : k ≤ s.size) : (s.extract k s.size).extract n (s.extract k s.size).size = s.extract (k + n) s.size := by
  apply ByteArray.ext
  have e1 : (s.extract k s.size).size = s.size - k := by simp
  rw [e1]
  simp only [ByteArray.data_extract, Array.extract_extract]
  congr 1
  omega
theorem builder_set {B b b6 : Nat} {bs : List Value} {w : World} {cs : Array Value} {ty : TypeId} (h : Lib.IsBuilderF 43 5 B b bs w) (hb : w.heap[b6]? = some (.cells cs ty (0, 0))) (hne : b ≠ b6) (hty : ty ≠ 5) (i : Nat) (v : Value) : Lib.IsBuilderF 43 5 B b bs (w.setCell ⟨b6, i, none⟩ v) := by
  have go : ∀ p, Lib.BuilderAtF 43 5 B b p bs w → Lib.BuilderAtF 43 5 B b p bs (w.setCell ⟨b6, i, none⟩ v) := by
    rintro p ⟨hB, u, hbk, hown, hn⟩
    refine ⟨hB, u, blk_setO hbk hne, hown.kept (row := some b6) ⟨rfl, rfl, rfl, by simp, fun k _ hk => Below.heap_setCell _ _ _ _ (fun e => hk (by simp [e]))⟩ (Or.inr (Lib.ownBlock_neF hown hb hty)), hn⟩
  exact h.imp (go _) (go _)
theorem wrap_two {k n m : Nat} (h : k + n < m) (hm : m ≤ 1000000) : wrap64 ((k : Int) + ((n : Int) + 1)) = (k : Int) + ((n : Int) + 1) ∧ IntKind.i64.wrap ((k : Int) + ((n : Int) + 1)) = (k : Int) + ((n : Int) + 1) ∧ wrap64 ((n : Int) + 1) = (n : Int) + 1 ∧ IntKind.i64.wrap ((n : Int) + 1) = (n : Int) + 1 ∧
    wrap64 ((k : Int) + ((n : Int) + 1) + 1) = (k : Int) + ((n : Int) + 1) + 1 ∧ IntKind.i64.wrap ((k : Int) + ((n : Int) + 1) + 1) = (k : Int) + ((n : Int) + 1) + 1 := by
  simp only [i64_w]
  unfold wrap64
  omega
theorem len_ok {a b k m : Nat} (h : a ≤ k) (h2 : k + b ≤ m) (hm : m ≤ 1000000) : a + b ≤ 140737488355328 := by
  have h3 : a + b ≤ m := by omega
  exact Nat.le_trans h3 (Nat.le_trans hm (by decide))
theorem byteCells_length (l : List UInt8) : (Lib.byteCells l).length = l.length := List.length_map ..
theorem len_more {acc : List UInt8} {bef : ByteArray} {k n : Nat} {s : ByteArray} (hbs : bef.size = n) (hak : acc.length ≤ k) (hk : k + n + 1 < s.size) (hs : s.size ≤ 1000000) : (Lib.byteCells acc ++ Lib.strCells bef).length + 1 ≤ 140737488355328 := by
  have h1 : bef.data.toList.length = n := by rw [← hbs]; simp
  rw [bytes_snoc, byteCells_length, List.length_append, h1]
  have h2 : acc.length + n ≤ k + n := by omega
  have h3 : k + n + 1 ≤ s.size := by omega
  exact len_ok h2 h3 hs
theorem hasQ_pos {s : ByteArray} {k : Nat} (h : hasQ (s.extract k s.size) = true) : k < s.size := by
  unfold hasQ at h
  split at h
  · rename_i h1
    simp at h1
    omega
  · cases h
abbrev bT := 43
def QuoPost (g : Nat) (w : World) (s : ByteArray) (l : List Pt) (pos : Int) (r : Option (List UInt8 × Nat)) (e : Ending) (w' : World) : Prop :=
  match r with
  | none => Thrown e 30 pos ∧ Kept (fun k => k = g) w w'
  | some (t, k) => e = .returned (.string ⟨t.toArray⟩) ∧ LxT g w' s (behind k l) ∧ Kept (fun k => k = g) w w'
def QuoInv (s : ByteArray) (r : Option (List UInt8 × Nat)) (w : World) (kq : Nat) (v6 : Value) (w' : World) : Prop :=
  ∃ (b6 k : Nat) (acc : List UInt8), v6 = .pointer (some ⟨b6, 0, none⟩) ∧ k ≤ s.size ∧ acc.length ≤ k ∧ quoteL s kq acc k = some r ∧ w'.heap[b6]? = some (.cells #[.int .i64 k] 3 (0, 0)) ∧ w.heap.size < b6 ∧
    Lib.IsBuilderF bT 5 w.heap.size w.heap.size (Lib.byteCells acc) w' ∧ Below w.heap.size w w'
theorem quo_next {s : ByteArray} {r : Option (List UInt8 × Nat)} {w w5 : World} {b6 k n gk : Nat} {acc : List UInt8} {bef : ByteArray} {x : Int} {cs : Array Value} (hbs : bef.size = n) (hak : acc.length ≤ k) (hk1 : k + n + 1 < s.size) (hlb : w.heap.size < b6) (hl5 : b6 < w5.heap.size)
    (hq : quoteL s gk (acc ++ bef.data.toList ++ [39]) (k + n + 1 + 1) = some r) (hx : x = ((k + n + 1 + 1 : Nat) : Int)) (h6 : w5.heap[b6]? = some (.cells cs 3 (0, 0))) (hB : Lib.IsBuilderF bT 5 w.heap.size w.heap.size (Lib.byteCells acc ++ Lib.strCells bef ++ [.int .u8 39]) w5) (hL : Below w.heap.size w w5) :
    QuoInv s r w gk (.pointer (some ⟨w5.heap.size, 0, none⟩)) ((w5.setCell ⟨b6, 0, none⟩ (.int .i64 x)).alloc (.cells #[.int .i64 x] 3)) := by
  have h1 : bef.data.toList.length = n := by rw [← hbs]; simp
  have hlen : (acc ++ bef.data.toList ++ [39]).length ≤ k + n + 1 + 1 := by
    simp only [List.length_append, h1, List.length_cons, List.length_nil]
    omega
  subst hx
  refine ⟨w5.heap.size, k + n + 1 + 1, acc ++ bef.data.toList ++ [39], rfl, hk1, hlen, hq, ?_, by omega, ?_, ?_⟩
  · have := heap_alloc_new (w5.setCell ⟨b6, 0, none⟩ (.int .i64 ((k + n + 1 + 1 : Nat) : Int))) (.cells #[.int .i64 ((k + n + 1 + 1 : Nat) : Int)] 3)
    rw [World.size_setCell] at this
    exact this
  · rw [bytes_snoc, bytes_quote] at hB
    exact Lib.IsBuilderF.alloc (builder_set hB h6 (by omega) (by decide) 0 _) _
  · exact below_alloc (hL.setCell (p := ⟨b6, 0, none⟩) (Nat.le_of_lt hlb) _) _
set_option maxHeartbeats 4000000 in
set_option maxRecDepth 100000 in
theorem quoted_calls (g T : Nat) (w : World) (s : ByteArray) (l : List Pt) (pos f : Nat) (r : Option (List UInt8 × Nat)) (hL : Lx g T w s l) (hp : pos < s.size) (hs : s.size ≤ 1000000) (hll : l.length ≤ 1000000) (h : quoteL s f [] (pos + 1) = some r) :
    Calls Tryd.prog 50 #[.pointer (some ⟨g, 0, none⟩), .int .i64 pos] w (QuoPost g w s l pos r) := by
  have hg := hL.lt
  have hg1 : ∀ k, g < w.heap.size + k := fun k => by omega
  have hmf := makeFunc_run
  have HL := Aside0.mk hL
  have H := Aside0.mk h
  have HS := Aside0.mk hs
  have hwp := (wrap_nat hp hs).2
  have hwp' := (wrap_nat hp hs).1
  clear hL h hs
  go_enter Tryd.func50, Tryd.ntmps50
  go_wp2_with (fail)
  go_loopg [6] f (fun kq v6 w' => Aside0 (QuoInv s r w kq v6 w'))
  case atStart =>
    refine ⟨w.heap.size + 1, pos + 1, [], rfl, by omega, by simp, H.out, ?_, by omega, ?_, ?_⟩
    · rw [← World.size_alloc w (.cells #[.pointer none, .slice none 0 0] 43)]
      exact heap_alloc_new _ _
    · exact (Lib.IsBuilderF.alloc (Or.inl ⟨Nat.le_refl _, .slice none 0 0, heap_alloc_new w _, ⟨rfl, .inl ⟨rfl, rfl⟩⟩, by simp [Value.ownBlock]⟩) _)
    · exact below_alloc (below_alloc (Below.refl _ _) _) _
  case round =>
    obtain ⟨b6, k, acc, rfl, hks, hak, hq, hb6, hlb, hbu, hbel⟩ := hrel.out
    clear hrel H
    obtain ⟨A, c, hgb, hlc, hTg, hA, hC⟩ := HL.out
    have hgb' := Aside0.mk ((hbel.block g hg).trans hgb)
    have g0 := blk_cell hgb'.out 0
    have g1 := blk_cell hgb'.out 1
    have c6 := blk_cell hb6 0
    have f6 := blk_frozen hb6 0
    have hkI : (k : Int) ≤ (s.size : Int) := by omega
    have hk0 : (0 : Int) ≤ (k : Int) := by omega
    have HB6 := Aside0.mk hb6
    have HBU := Aside0.mk hbu
    have HBEL := Aside0.mk hbel
    have HC := Aside0.mk hC
    have HQ := Aside0.mk hq
    have h6l := blk_lt hb6
    have hgwr : g < wr.heap.size := by have := hbel.size; omega
    clear hgb hC hb6 hbu hbel hq hA
    by_cases hn : quoteAt (s.extract k s.size) < 0
    · have hq := HQ.out
      obtain ⟨gk, rfl⟩ : ∃ q, gk = q + 1 := by cases gk with | zero => cases hq | succ q => exact ⟨q, rfl⟩
      rw [quoteL, if_pos hn] at hq
      obtain rfl := Option.some.inj hq
      have hcut := fun W : World => cut_no (s.extract k s.size) W hn
      unfold sQuote at hcut
      have HCUT := Aside0.mk hcut
      clear hcut hq
      go_wp2_with (fail)
      go_quiet (first | (go_at_call 65; exact Calls.quiet_of_same (HCUT.out _)))
      go_wp2_with (go_at_call 42; go_loud (refine (fail_calls _ _ _).mono ?_; rintro e w2 ⟨he, hb⟩; unfold Thrown at he; subst he))
      exact ⟨rfl, rfl, ((Kept.refl _ w).below HBEL.out |>.drewN _).below hb⟩
    · have hn' : 0 ≤ quoteAt (s.extract k s.size) := by omega
      have hcut := fun W : World => cut_yes (s.extract k s.size) W (by simp; have := HS.out; omega) hn'
      unfold sQuote at hcut
      have hlt := quoteAt_lt (s.extract k s.size)
      have hq := HQ.out
      obtain ⟨gk, rfl⟩ : ∃ q, gk = q + 1 := by cases gk with | zero => cases hq | succ q => exact ⟨q, rfl⟩
      rw [quoteL, if_neg hn] at hq
      obtain ⟨n, hnn⟩ : ∃ n : Nat, (quoteAt (s.extract k s.size)).toNat = n := ⟨_, rfl⟩
      rw [hnn] at hq hcut
      have hts : (s.extract k s.size).size = s.size - k := by simp
      have hnl : k + n < s.size := by omega
      rw [show (s.extract k s.size).extract (n + 1) (s.extract k s.size).size = s.extract (k + n + 1) s.size from by rw [extract_tail s k (n + 1) hks]; rfl] at hcut
      obtain ⟨bef, hbef⟩ : ∃ bef, (s.extract k s.size).extract 0 n = bef := ⟨_, rfl⟩
      have hbs : bef.size = n := by rw [← hbef]; simp; omega
      rw [hbef] at hcut hq
      have HCUT := Aside0.mk hcut
      have HQ2 := Aside0.mk hq
      clear hcut hq HQ hbef hlt hnn hts hn hn'
      go_wp2_with (fail)
      go_quiet (first | (go_at_call 65; exact Calls.quiet_of (HCUT.out _)))
      have HBU2 := Aside0.mk (builder_below HBU.out (below_drewN' (Below.refl _ _) nq))
      obtain ⟨u1, u2, u3, u4', u5, u6⟩ := wrap_two hnl HS.out
      go_wp2_with (fail)
      refine (writeString w.heap.size w.heap.size (Lib.byteCells acc) bef _ HBU2.out (by rw [byteCells_length]; exact len_ok hak (by rw [hbs]; exact Nat.le_of_lt hnl) HS.out) (by have := HBEL.out.size; simpa using this)).mono ?_
      rintro e w2 ⟨rfl, hB2, hbl2, hok2⟩
      have C6 := hok2 b6 _ (show (wr.drewN nq).heap[b6]? = _ from HB6.out) (by simp; omega) (by intro c fz e; injection e with _ e _; cases e)
      have hbel2 := (pw_below_drewN HBEL.out nq).trans hbl2
      clear c6 f6 g0 g1 HBU HBU2 hbl2 hok2 HB6 HBEL hgb'
      have c6 := blk_cell C6 0
      have f6 := blk_frozen C6 0
      have HB6 := Aside0.mk C6
      have HBU := Aside0.mk hB2
      have HBEL := Aside0.mk hbel2
      have h6l2 := blk_lt C6
      clear C6 hB2 hbel2
      go_wp2_with (fail)
      have hkk := Aside0.mk (show ((k : Int) + ((n : Int) + 1)) = ((k + n + 1 : Nat) : Int) by simp; omega)
      have hkk1 := Aside0.mk (show ((k : Int) + ((n : Int) + 1) + 1) = ((k + n + 1 + 1 : Nat) : Int) by simp; omega)
      have X6 := Aside0.mk (show (w2.setCell ⟨b6, 0, none⟩ (.int .i64 ((k : Int) + ((n : Int) + 1)))).heap[b6]? = some (.cells #[.int .i64 ((k : Int) + ((n : Int) + 1))] 3 (0, 0)) from blk_set HB6.out 0 _)
      have XB := Aside0.mk (builder_set HBU.out HB6.out (by omega) (by decide) 0 (.int .i64 ((k : Int) + ((n : Int) + 1))))
      have XL := Aside0.mk (HBEL.out.setCell (p := ⟨b6, 0, none⟩) (Nat.le_of_lt hlb) (.int .i64 ((k : Int) + ((n : Int) + 1))))
      have hxs : b6 < (w2.setCell ⟨b6, 0, none⟩ (.int .i64 ((k : Int) + ((n : Int) + 1)))).heap.size := by rw [World.size_setCell]; exact h6l2
      refine (hasQ_calls (s.extract (k + n + 1) s.size) _).mono ?_
      rintro e w3 ⟨rfl, ⟨m3, rfl⟩⟩
      have Y6 := Aside0.mk (show ((w2.setCell ⟨b6, 0, none⟩ (.int .i64 ((k : Int) + ((n : Int) + 1)))).drewN m3).heap[b6]? = _ from X6.out)
      have YB := Aside0.mk (builder_below XB.out (below_drewN' (Below.refl _ _) m3))
      have YL := Aside0.mk (pw_below_drewN XL.out m3)
      have hys : b6 < ((w2.setCell ⟨b6, 0, none⟩ (.int .i64 ((k : Int) + ((n : Int) + 1)))).drewN m3).heap.size := by simpa using hxs
      clear c6 f6 HB6 HBU HBEL X6 XB XL hxs
      generalize (w2.setCell ⟨b6, 0, none⟩ (.int .i64 ((k : Int) + ((n : Int) + 1)))).drewN m3 = w4 at Y6 YB YL hys ⊢
      have c6 := blk_cell Y6.out 0
      have f6 := blk_frozen Y6.out 0
      have hgl4 : g < w4.heap.size := by have := YL.out.size; omega
      cases hQ : hasQ (s.extract (k + n + 1) s.size) with
      | false =>
        have hq := HQ2.out
        rw [if_neg (by rw [hQ]; simp)] at hq
        obtain rfl := Option.some.inj hq
        obtain ⟨A, c, hgb, hlc, hTg, hA, hC⟩ := HL.out
        have G4 := Aside0.mk ((YL.out.block g hg).trans hgb)
        have g1 := blk_cell G4.out 1
        have f1 := blk_frozen G4.out 1
        have HCl := Aside0.mk (clone_any A l.length c l w4 (Kd.C_below hC YL.out) rfl hll)
        clear hgb hA hC hq HC HQ2
        go_wp2_with (fail)
        refine HCl.out.mono ?_
        rintro e w5 ⟨A', c', rfl, hO5, hc5, hb5⟩
        have Z6 := Aside0.mk (blk_below Y6.out hb5)
        have G5 := Aside0.mk (blk_below G4.out hb5)
        have g5 := blk_cell G5.out 1
        have f5 := blk_frozen G5.out 1
        have B5 := Aside0.mk hb5
        have O5 := Aside0.mk hO5
        have hs5 := hb5.size
        clear g1 f1 c6 f6 hb5 hO5
        go_wp2_with (fail)
        refine (delete_any w4.heap.size A' l.length c' b6 ((k : Int) + ((n : Int) + 1)) l w5 O5.out rfl hll hc5 ((blk_cell Z6.out 0).trans rfl) hys hs5).mono ?_
        rintro e w6 ⟨m, c2, rfl, hm, hO6, hmc, hb6'⟩
        have HM := Aside0.mk hm
        clear hm
        have B6 := Aside0.mk (B5.out.trans hb6')
        have G6 := Aside0.mk ((hb6'.block g hgl4).trans G5.out)
        have O6 := Aside0.mk hO6
        have g6 := blk_cell G6.out 1
        have f6 := blk_frozen G6.out 1
        have hgl6 := blk_lt G6.out
        clear g5 f5 hb6' hO6 hkk1
        go_wp2_with (fail)
        obtain ⟨T', hLx, hTb⟩ := lx_set G6.out hgl4 O6.out HM.out hmc
        have HB6' := Aside0.mk (builder_set (builder_below YB.out B6.out) G6.out (by omega) (by decide) 1 (.slice A' m c2))
        refine (Tryd.Builder_String_any_k w.heap.size w.heap.size (acc ++ bef.data.toList) _ (by rw [← bytes_snoc]; exact HB6'.out) (by rw [World.size_setCell]; have h1 := YL.out.size; have h2 := B6.out.size; omega)).mono ?_
        rintro e w7 ⟨rfl, hB7, hb7, hok7⟩
        have hg7 := hok7 g _ (blk_set G6.out 1 (.slice A' m c2)) (by simp; omega) (by intro c fz e; injection e with _ e _; cases e)
        have hTs : ∀ cur, (w6.setCell ⟨g, 1, none⟩ (.slice A' m c2)).heap[T']? = some (.cells cur 109 (0, 0)) → w7.heap[T']? = some (.cells cur 109 (0, 0)) := fun cur hcur => by
          have hTw : T' ≠ w.heap.size := by
            intro q2
            have hbb := HB6'.out
            rcases hbb with ⟨_, v, hv, _⟩ | ⟨_, v, hv, _⟩
            · rw [← q2, hcur] at hv
              injection hv with hv
              injection hv with _ hv _
              cases hv
            · rw [← q2, hcur] at hv
              injection hv with hv
              injection hv with _ hv _
              cases hv
          exact hok7 T' _ hcur (by simpa using hTw) (by intro c fz e; injection e with _ e _; cases e)
        have hL7 : LxT g w7 s (behind ((k : Int) + ((n : Int) + 1)) l) := ⟨T', hLx.same (by rw [hg7, blk_set G6.out 1 (.slice A' m c2)]) (fun q => by
          obtain ⟨cur, hcur⟩ := hTb q
          rw [hTs cur hcur, hcur]), fun q => by
          obtain ⟨cur, hcur⟩ := hTb q
          exact ⟨cur, hTs cur hcur⟩⟩
        have hK6 := ((kept_of_below YL.out).mono (T := fun k => k = g) (fun j hj q => by have q' : w.heap.size ≤ j := q; omega)).below B6.out
        have hK7 : Kept (fun k => k = g) w w7 := Kept.trans (hK6.setCell g 1 (.slice A' m c2) (Or.inl rfl)) (kept_of_below hb7) (fun j hj q => by have q' : w.heap.size ≤ j := q; omega)
        have R7 := Aside0.mk (And.intro hL7 hK7)
        clear hL7 hK7 hLx hTb hok7 hb7 hB7 hg7 hK6 g6 f6
        go_wp2_with (fail)
        go_ret
        refine ⟨rfl, ?_, R7.out.2⟩
        rw [← hkk.out]
        exact R7.out.1
      | true =>
        have hq := HQ2.out
        rw [if_pos hQ] at hq
        have HQ3 := Aside0.mk hq
        have hk1 : k + n + 1 < s.size := hasQ_pos hQ
        clear hq HQ2
        go_wp2_with (fail)
        have h5 := Aside0.mk (len_more (bef := bef) hbs hak hk1 HS.out)
        have h6 : w.heap.size ≤ w4.heap.size := YL.out.size
        refine (writeByte w.heap.size w.heap.size _ 39 w4 YB.out h5.out h6).mono ?_
        rintro e w5 ⟨rfl, hB5, hbl5, hok5⟩
        have C6 := hok5 b6 _ Y6.out (by simp; omega) (by intro c fz e; injection e with _ e _; cases e)
        have V6 := Aside0.mk C6
        have VB := Aside0.mk hB5
        have VL := Aside0.mk (YL.out.trans hbl5)
        clear C6 hB5 hbl5 hok5 c6 f6 Y6 YB YL
        have c6 := blk_cell V6.out 0
        have f6 := blk_frozen V6.out 0
        have hl5 := blk_lt V6.out
        go_wp2_with (fail)
        go_roundg gk
        case measure => omega
        case rel =>
          exact ⟨quo_next hbs hak hk1 hlb hl5 HQ3.out hkk1.out V6.out VB.out VL.out⟩
end Go.Proofs.YtfgogfdbjbnlbaaDoor.PExpr
end
section
namespace Go.Proofs.YtfgogfdbjbnlbaaDoor.PExpr
open Go.RowKit Go.Proofs.YtfgogfdbjbnlbaaDoorW.PrintWords Go.Proofs.YtfgogfdbjbnlbaaDoorW.PrintLast Go.Proofs.YtfgogfdbjbnlbaaDoorW.PrintMore
set_option linter.unusedVariables false
set_option linter.unusedSimpArgs false
inductive TRes where
  | ok (t : Tk) (l : List Pt)
  | bad (why pos : Int)
def nameL (pos : Int) : ByteArray → List Pt → ByteArray × List Pt
  | t, [] => (t, [])
  | t, q :: r => if q.f2 = pos + t.size ∧ q.f0 ≠ 3 then nameL pos (t ++ q.f1) r else (t, q :: r)
def lowS (t : ByteArray) : ByteArray := strOfNums (lowL t)
def numP (p : Pt) (r : List Pt) : TRes :=
  match r with
  | q :: q2 :: r' => if q.f2 = p.f2 + p.f1.size ∧ pointB q (q2 :: r') = true then .ok ⟨0, p.f1 ++ (sDot ++ q2.f1), p.f2⟩ r' else .ok ⟨0, p.f1, p.f2⟩ r
  | _ => .ok ⟨0, p.f1, p.f2⟩ r
def signP (p : Pt) (r : List Pt) : TRes :=
  match r with
  | q :: r' => if q.f2 = p.f2 + 1 ∧ hasB pairs4 (p.f1 ++ q.f1) = true then .ok ⟨3, p.f1 ++ q.f1, p.f2⟩ r' else .ok ⟨3, p.f1, p.f2⟩ r
  | [] => .ok ⟨3, p.f1, p.f2⟩ r
def tokenP (s : ByteArray) (p : Pt) (r : List Pt) : Option TRes :=
  if p.f1 = sQuote then (quoteL s (s.size + 2) [] (p.f2.toNat + 1)).map fun q => match q with
    | none => .bad 30 p.f2
    | some (t, k) => .ok ⟨2, ⟨t.toArray⟩, p.f2⟩ (behind k r)
  else if p.f0 = 1 then some (numP p r)
  else if p.f0 = 2 then some (.ok ⟨1, lowS (nameL p.f2 p.f1 r).1, p.f2⟩ (nameL p.f2 p.f1 r).2)
  else some (signP p r)
def PartIn (s : ByteArray) (p : Pt) : Prop := 0 ≤ p.f2 ∧ p.f2 + p.f1.size ≤ s.size
def TokPost (g : Nat) (w : World) (s : ByteArray) (R : TRes) (e : Ending) (w' : World) : Prop :=
  match R with
  | .ok t l => e = .returned (tokV t) ∧ LxT g w' s l ∧ Kept (fun k => k = g) w w'
  | .bad why pos => Thrown e why pos ∧ Kept (fun k => k = g) w w'
theorem LxT.pass {g : Nat} {w : World} {s : ByteArray} {p : Pt} {r : List Pt} {T off c : Nat} (h : Lx g T w s (p :: r)) (hT : ∃ cur, w.heap[T]? = some (.cells cur 109 (0, 0))) (h1 : w.cell? ⟨g, 1, none⟩ = some (.slice (some ⟨T, off, none⟩) (r.length + 1) c)) (hc : r.length + 1 ≤ c) {v : Value} (hv : v = .slice (if c = 1 then some ⟨T, off, none⟩ else some ⟨T, off + 3, none⟩) r.length (c - 1)) :
    LxT g (w.setCell ⟨g, 1, none⟩ v) s r := by
  subst hv
  obtain ⟨cur, hcur⟩ := hT
  exact ⟨T, h.tail h1 hc, fun _ => ⟨cur, blk_setO hcur (by
    obtain ⟨_, _, _, _, hne, _⟩ := h
    exact hne)⟩⟩
theorem blk_of_lx {g T : Nat} {w : World} {s : ByteArray} {l : List Pt} (h : Lx g T w s l) : ∃ A c, w.heap[g]? = some (.cells #[.string s, .slice A l.length c] 81 (0, 0)) := by
  obtain ⟨A, c, hb, _⟩ := h
  exact ⟨A, c, hb⟩
theorem blk_cell_old {w : World} {g i : Nat} {v : Value} (h : w.cell? ⟨g, i, none⟩ = some v) (hg : g < w.heap.size) (o1 o2 o3 : Obj) : (((w.alloc o1).alloc o2).alloc o3).cell? ⟨g, i, none⟩ = some v := by
  rw [← h]
  exact (below_alloc (below_alloc (below_alloc (Below.refl w.heap.size w) o1) o2) o3).cell (p := ⟨g, i, none⟩) hg
def takeR (pos : Int) (pred : Pt → List Pt → Bool) (l : List Pt) : ByteArray × Bool × List Pt :=
  match l with
  | [] => (⟨#[]⟩, false, [])
  | p :: r => if p.f2 = pos ∧ pred p r = true then (p.f1, true, r) else (⟨#[]⟩, false, p :: r)
theorem ltake_any (F : FuncId) (hF : ∀ args w, (callFunc F args).run Tryd.prog w = .ok (.enter F args) w) (caps : Array Value) (g : Nat) (w : World) (s : ByteArray) (l : List Pt) (pos : Int) (pred : Pt → List Pt → Bool) (hL : LxT g w s l)
    (hc : ∀ p r, l = p :: r → p.f2 = pos → Calls Tryd.prog F (#[ptV p] ++ caps) w fun e w' => e = .returned (.bool (pred p r)) ∧ Below w.heap.size w w') :
    Calls Tryd.prog 53 #[.pointer (some ⟨g, 0, none⟩), .int .i64 pos, .func (.func F) #[] caps] w fun e w' => e = .returned (.tuple #[.string (takeR pos pred l).1, .bool (takeR pos pred l).2.1]) ∧ LxT g w' s (takeR pos pred l).2.2 ∧ Kept (fun k => k = g) w w' := by
  obtain ⟨T, hLx, hT⟩ := hL
  cases l with
  | nil =>
    refine (ltake_nil g T w s pos _ hLx).mono ?_
    rintro e w' ⟨rfl, rfl⟩
    exact ⟨rfl, ⟨T, hLx, hT⟩, Kept.refl _ _⟩
  | cons p r =>
    by_cases hp : p.f2 = pos
    · have hcc := hc p r rfl hp
      cases hq : pred p r with
      | false =>
        rw [hq] at hcc
        have e1 : takeR pos pred (p :: r) = (⟨#[]⟩, false, p :: r) := by simp [takeR, hq]
        rw [e1]
        refine (ltake_no F hF caps g T w s p r pos hLx hp hcc).mono ?_
        rintro e w' ⟨rfl, hb⟩
        exact ⟨rfl, LxT.below ⟨T, hLx, hT⟩ hb, (Kept.refl _ w).below hb⟩
      | true =>
        rw [hq] at hcc
        have e1 : takeR pos pred (p :: r) = (p.f1, true, r) := by simp [takeR, hq, hp]
        rw [e1]
        refine (ltake_yes F hF caps g T w s p r pos hLx hp hcc).mono ?_
        rintro e w' ⟨rfl, hL', hk⟩
        obtain ⟨cur, hcur⟩ := hT (by simp)
        have hTg : T ≠ g := by
          obtain ⟨_, _, _, _, q, _⟩ := hLx
          exact q
        exact ⟨rfl, ⟨T, hL', fun _ => ⟨cur, hk.blk hcur hTg⟩⟩, hk⟩
    · have e1 : takeR pos pred (p :: r) = (⟨#[]⟩, false, p :: r) := by simp [takeR, hp]
      rw [e1]
      refine (ltake_far g T w s p r pos _ hLx hp).mono ?_
      rintro e w' ⟨rfl, rfl⟩
      exact ⟨rfl, ⟨T, hLx, hT⟩, Kept.refl _ _⟩
theorem ba_nil (a : ByteArray) : a ++ (⟨#[]⟩ : ByteArray) = a := by
  apply ByteArray.ext
  simp
theorem signP_take (p : Pt) (r : List Pt) : signP p r = .ok ⟨3, p.f1 ++ (takeR (p.f2 + 1) (fun q _ => hasB pairs4 (p.f1 ++ q.f1)) r).1, p.f2⟩ (takeR (p.f2 + 1) (fun q _ => hasB pairs4 (p.f1 ++ q.f1)) r).2.2 := by
  cases r with
  | nil => simp [signP, takeR, ba_nil]
  | cons q r' =>
    simp only [signP, takeR]
    split
    · rfl
    · simp [ba_nil]
theorem wrap_pos {x : Int} {s : ByteArray} {p : Pt} (h : PartIn s p) (hs : s.size ≤ 40000) (h0 : 0 ≤ x) (h1 : x ≤ 1 + p.f1.size) : wrap64 (p.f2 + x) = p.f2 + x ∧ IntKind.i64.wrap (p.f2 + x) = p.f2 + x := by
  rw [i64_w]
  unfold PartIn at h
  unfold wrap64
  omega
theorem sizes_in {s : ByteArray} {p q : Pt} (h : PartIn s p) (h' : PartIn s q) (hs : s.size ≤ 40000) : p.f1.size + q.f1.size ≤ 100000 := by
  unfold PartIn at h h'
  omega
theorem take_in {s : ByteArray} {pos : Int} {pred : Pt → List Pt → Bool} {l : List Pt} (h : ∀ q ∈ l, PartIn s q) (hs : s.size ≤ 40000) : (takeR pos pred l).1.size ≤ 40000 := by
  unfold takeR
  split
  · exact Nat.zero_le _
  · rename_i p r
    split
    · have := h p (by simp)
      unfold PartIn at this
      show p.f1.size ≤ 40000
      omega
    · exact Nat.zero_le _
theorem pair_calls' (p q : Pt) (b : Nat) (w : World) (h : w.cell? ⟨b, 1, none⟩ = some (.string p.f1)) (hb : b < w.heap.size) (hs : p.f1.size + q.f1.size ≤ 100000) : Calls Tryd.prog 56 (#[ptV q] ++ #[.pointer (some ⟨b, 0, none⟩)]) w fun e w' => e = .returned (.bool (hasB pairs4 (p.f1 ++ q.f1))) ∧ Below w.heap.size w w' := by
  rw [show (#[ptV q] ++ #[.pointer (some ⟨b, 0, none⟩)] : Array Value) = #[ptV q, .pointer (some ⟨b, 0, none⟩)] from rfl]
  exact pair_calls p q b w h hb hs
theorem lt_alloc {w : World} {b : Nat} (h : b < w.heap.size) (o : Obj) : b < (w.alloc o).heap.size := by
  rw [World.size_alloc]
  omega
theorem cat_ok {s : ByteArray} {p : Pt} {t : ByteArray} (h : PartIn s p) (hs : s.size ≤ 40000) (ht : t.size ≤ 40000) : p.f1.size + t.size ≤ 9223372036854775807 := by
  unfold PartIn at h
  have h2 : p.f1.size + t.size ≤ 80000 := by omega
  exact Nat.le_trans h2 (by decide)
theorem lx_set2 {g b1 b4 : Nat} {w w6 : World} {s : ByteArray} {l : List Pt} {c1 c4 : Array Value} (hL : LxT g w s l) (h1 : w.heap[b1]? = some (.cells c1 87 (0, 0))) (h4 : w.heap[b4]? = some (.cells c4 87 (0, 0))) (hg1 : b1 ≠ g) (hg4 : b4 ≠ g) (k : Kept (fun j => j = b1 ∨ j = b4) w w6) : LxT g w6 s l := by
  refine hL.kept k (fun q => ?_) (fun j cur hc q => ?_)
  · rcases q with q | q
    · exact hg1 q.symm
    · exact hg4 q.symm
  · rcases q with q | q
    · subst q
      rw [h1] at hc
      injection hc with hc
      injection hc with _ hc _
      cases hc
    · subst q
      rw [h4] at hc
      injection hc with hc
      injection hc with _ hc _
      cases hc
theorem point_any (a g : Nat) (w : World) (s : ByteArray) (p u : Pt) (r : List Pt) (hA : w.heap[a]? = some (.cells #[.pointer (some ⟨g, 0, none⟩)] 79 (0, 0))) (hL : LxT g w s (p :: r)) (hp : PartIn s p) (hs : s.size ≤ 40000) :
    Calls Tryd.prog 51 (#[ptV u] ++ #[.pointer (some ⟨a, 0, none⟩)]) w fun e w' => e = .returned (.bool (pointB p r)) ∧ Below w.heap.size w w' := by
  rw [show (#[ptV u] ++ #[.pointer (some ⟨a, 0, none⟩)] : Array Value) = #[ptV u, .pointer (some ⟨a, 0, none⟩)] from rfl]
  obtain ⟨T, hLx, _⟩ := hL
  by_cases hd : p.f1 = sDot
  · cases r with
    | nil => exact point_end a g T w s p u hA hLx hd
    | cons q r' =>
      have e1 : pointB p (q :: r') = (q.f0 == 1 && q.f2 == p.f2 + 1) := by
        unfold pointB
        rw [hd]
        simp
      rw [e1]
      have h1 := hp.1
      have h2 := hp.2
      exact point_two a g T w s p q u r' hA hLx hd h1 (by omega)
  · have e1 : pointB p r = false := by
      unfold pointB
      cases r with
      | nil => rfl
      | cons q r' => simp [hd]
    rw [e1]
    exact point_no a g T w s p u r hA hLx hd
theorem numP_no (p : Pt) (r : List Pt) (h : (takeR (p.f2 + p.f1.size) pointB r).2.1 = false) : numP p r = .ok ⟨0, p.f1, p.f2⟩ (takeR (p.f2 + p.f1.size) pointB r).2.2 := by
  unfold takeR at h ⊢
  cases r with
  | nil => rfl
  | cons q r' =>
    simp only at h ⊢
    split at h
    · cases h
    · rename_i hn
      rw [if_neg hn]
      cases r' with
      | nil => rfl
      | cons q2 r2 =>
        simp only [numP]
        rw [if_neg hn]
theorem numP_yes (p : Pt) (r : List Pt) (h : (takeR (p.f2 + p.f1.size) pointB r).2.1 = true) : ∃ q2 r2, (takeR (p.f2 + p.f1.size) pointB r).2.2 = q2 :: r2 ∧ numP p r = .ok ⟨0, p.f1 ++ (sDot ++ q2.f1), p.f2⟩ r2 ∧ q2 ∈ r := by
  unfold takeR at h ⊢
  cases r with
  | nil => cases h
  | cons q r' =>
    simp only at h ⊢
    split at h
    · rename_i hy
      rw [if_pos hy]
      cases r' with
      | nil =>
        have := hy.2
        simp [pointB] at this
      | cons q2 r2 =>
        refine ⟨q2, r2, rfl, ?_, by simp⟩
        simp only [numP]
        rw [if_pos hy]
    · cases h
theorem cat2_ok {a b : ByteArray} (h : a.size + b.size ≤ 100000) : (⟨#[46]⟩ : ByteArray).size + b.size ≤ 9223372036854775807 ∧ 1 + b.size ≤ 9223372036854775807 ∧ a.size + ((⟨#[46]⟩ : ByteArray) ++ b).size ≤ 9223372036854775807 ∧ a.size + (1 + b.size) ≤ 9223372036854775807 := by
  have e : (⟨#[46]⟩ : ByteArray).size = 1 := rfl
  rw [ByteArray.size_append, e]
  have h1 : a.size + (1 + b.size) ≤ 100001 := by omega
  have h2 : 1 + b.size ≤ 100001 := by omega
  have h3 : (100001 : Nat) ≤ 9223372036854775807 := by decide
  exact ⟨Nat.le_trans h2 h3, Nat.le_trans h2 h3, Nat.le_trans h1 h3, Nat.le_trans h1 h3⟩
abbrev plainB (q : Pt) (_ : List Pt) : Bool := q.f0 != 3
theorem plain_calls' (q : Pt) (w : World) : Calls Tryd.prog 54 (#[ptV q] ++ #[]) w fun e w' => e = .returned (.bool (q.f0 != 3)) ∧ Below w.heap.size w w' := by
  rw [show (#[ptV q] ++ #[] : Array Value) = #[ptV q] from rfl]
  exact plain_calls q w
theorem lower_calls (t : ByteArray) (w : World) (h : t.size ≤ 40000) : Calls Tryd.prog 55 #[.string t] w fun e w' => e = .returned (.string (lowS t)) ∧ Below w.heap.size w w' := by
  refine word_Lower.calls t (lowS t) w ?_
  unfold word_Lower.f lowS
  rw [if_pos (Nat.le_trans h (by decide))]
def NameInv (g : Nat) (s : ByteArray) (p : Pt) (r : List Pt) (w : World) (kq : Nat) (v8 v9 : Value) (w' : World) : Prop :=
  ∃ (tx : ByteArray) (l : List Pt), nameL p.f2 tx l = nameL p.f2 p.f1 r ∧ v8 = .string (takeR (p.f2 + tx.size) plainB l).1 ∧ v9 = .bool (takeR (p.f2 + tx.size) plainB l).2.1 ∧ LxT g w' s (takeR (p.f2 + tx.size) plainB l).2.2 ∧
    w'.heap[w.heap.size + 1 + 1 + 1]? = some (.cells #[.int .i64 1, .string tx, .int .i64 p.f2] 87 (0, 0)) ∧ w'.heap[w.heap.size + 1]? = some (.cells #[.int .i64 0, .string ⟨#[]⟩, .int .i64 0] 87 (0, 0)) ∧ w'.heap[w.heap.size]? = some (.cells #[.pointer (some ⟨g, 0, none⟩)] 79 (0, 0)) ∧
    Kept (fun k => k = g) w w' ∧ (∀ q ∈ l, PartIn s q) ∧ p.f2 + tx.size ≤ s.size ∧ l.length ≤ kq
theorem name_no {pos : Int} {tx : ByteArray} {l : List Pt} (h : (takeR (pos + tx.size) plainB l).2.1 = false) : nameL pos tx l = (tx, l) ∧ (takeR (pos + tx.size) plainB l).2.2 = l := by
  unfold takeR at h ⊢
  cases l with
  | nil => exact ⟨rfl, rfl⟩
  | cons q r =>
    simp only at h ⊢
    split at h
    · cases h
    · rename_i hn
      rw [if_neg hn]
      refine ⟨?_, rfl⟩
      rw [nameL, if_neg (by simpa using hn)]
theorem name_yes {pos : Int} {tx : ByteArray} {l : List Pt} (h : (takeR (pos + tx.size) plainB l).2.1 = true) : ∃ q r, l = q :: r ∧ takeR (pos + tx.size) plainB l = (q.f1, true, r) ∧ nameL pos tx l = nameL pos (tx ++ q.f1) r ∧ q.f2 = pos + tx.size := by
  unfold takeR at h ⊢
  cases l with
  | nil => cases h
  | cons q r =>
    simp only at h ⊢
    split at h
    · rename_i hy
      rw [if_pos hy]
      refine ⟨q, r, rfl, rfl, ?_, hy.1⟩
      rw [nameL, if_pos (by simpa using hy)]
    · cases h
theorem wrap_end {pos : Int} {n m : Nat} (h0 : 0 ≤ pos) (h : pos + n ≤ m) (hm : m ≤ 40000) : wrap64 (pos + n) = pos + n ∧ IntKind.i64.wrap (pos + n) = pos + n := by
  rw [i64_w]
  unfold wrap64
  omega
theorem wrap_end2 {pos : Int} {a b m : Nat} (h0 : 0 ≤ pos) (h : pos + ((a : Int) + b) ≤ m) (hm : m ≤ 40000) : wrap64 (pos + ((a : Int) + b)) = pos + ((a : Int) + b) ∧ IntKind.i64.wrap (pos + ((a : Int) + b)) = pos + ((a : Int) + b) ∧ (9223372036854775807 < a + b) = False := by
  have h1 : a + b ≤ 40000 := by omega
  refine ⟨?_, ?_, eq_false (Nat.not_lt.2 (Nat.le_trans h1 (by decide)))⟩
  · unfold wrap64
    omega
  · rw [i64_w]
    unfold wrap64
    omega
theorem size_cat (a b : ByteArray) (pos : Int) : pos + ((a.size : Int) + b.size) = pos + ((a ++ b).size : Int) := by
  rw [ByteArray.size_append]
  simp
theorem end_cat {s : ByteArray} {q : Pt} {pos : Int} {tx : ByteArray} (h : PartIn s q) (e : q.f2 = pos + tx.size) : pos + ((tx.size : Int) + q.f1.size) ≤ s.size := by
  have := h.2
  omega
theorem name_next {g : Nat} {s : ByteArray} {p q : Pt} {r r' : List Pt} {w w6 w7 : World} {gk : Nat} {tx : ByteArray} (hn : nameL p.f2 (tx ++ q.f1) r' = nameL p.f2 p.f1 r) (hin : ∀ u ∈ q :: r', PartIn s u) (hq : q.f2 = p.f2 + tx.size) (hlen : (q :: r').length ≤ gk + 1)
    (h4 : w6.heap[w.heap.size + 1 + 1 + 1]? = some (.cells #[.int .i64 1, .string (tx ++ q.f1), .int .i64 p.f2] 87 (0, 0))) (h1 : w6.heap[w.heap.size + 1]? = some (.cells #[.int .i64 0, .string ⟨#[]⟩, .int .i64 0] 87 (0, 0))) (h0 : w6.heap[w.heap.size]? = some (.cells #[.pointer (some ⟨g, 0, none⟩)] 79 (0, 0))) (hk : Kept (fun k => k = g) w w6) (hg : g < w.heap.size)
    (hL7 : LxT g w7 s (takeR (p.f2 + ((tx ++ q.f1).size : Int)) plainB r').2.2) (hK7 : Kept (fun k => k = g) w6 w7) : NameInv g s p r w gk (.string (takeR (p.f2 + ((tx ++ q.f1).size : Int)) plainB r').1) (.bool (takeR (p.f2 + ((tx ++ q.f1).size : Int)) plainB r').2.1) w7 := by
  refine ⟨tx ++ q.f1, r', hn, rfl, rfl, hL7, hK7.blk h4 (by omega), hK7.blk h1 (by omega), hK7.blk h0 (by omega), Kept.trans hk hK7 (fun _ _ q => q), fun u hu => hin u (by simp [hu]), ?_, by simpa using hlen⟩
  rw [← size_cat]
  exact end_cat (hin q (by simp)) hq
theorem lx_set1 {g b : Nat} {w w6 : World} {s : ByteArray} {l : List Pt} {c : Array Value} (hL : LxT g w s l) (h1 : w.heap[b]? = some (.cells c 87 (0, 0))) (hg : b ≠ g) (k : Kept (fun j => j = b) w w6) : LxT g w6 s l :=
  lx_set2 hL h1 h1 hg hg (k.mono (fun _ _ q => Or.inl q))
set_option maxHeartbeats 2000000 in
set_option maxRecDepth 100000 in
theorem tok_sign (g T : Nat) (w : World) (s : ByteArray) (p : Pt) (r : List Pt) (hL : Lx g T w s (p :: r)) (hTb : ∃ cur, w.heap[T]? = some (.cells cur 109 (0, 0))) (hpi : PartIn s p) (hpr : ∀ q ∈ r, PartIn s q) (hs : s.size ≤ 40000) (hll : r.length ≤ 100000) (c0 : ¬ p.f1 = sQuote) (c1 : ¬ p.f0 = 1) (c2 : ¬ p.f0 = 2) : Calls Tryd.prog 40 #[.pointer (some ⟨g, 0, none⟩)] w (TokPost g w s (signP p r)) := by
  have hg := hL.lt
  have hg1 : ∀ k, g < w.heap.size + k := fun k => by omega
  have hmf := makeFunc_run
  obtain ⟨off, c, h0, h1, z1, hc, hTg, hTl, x0, x1, x2, hC⟩ := hL.cells
  have hT1 : ∀ k, T < w.heap.size + k := fun k => by omega
  have hT2 : T < w.heap.size + 1 + 1 := by omega
  have hg2 : g < w.heap.size + 1 + 1 := by omega
  have hT3 : T < w.heap.size + 1 + 1 + 1 := by omega
  have hg3 : g < w.heap.size + 1 + 1 + 1 := by omega
  have hn0 : (0 : Int) < (r.length : Int) + 1 := by omega
  have hr0 : ((r.length : Int) + 1 = 0) = False := eq_false (by omega)
  have HL := Aside0.mk hL
  have HTB := Aside0.mk hTb
  have HS := Aside0.mk hs
  have HPI := Aside0.mk hpi
  have HPR := Aside0.mk hpr
  have HLL := Aside0.mk hll
  clear hL hTb hs hpi hpr hll hC
  go_enter Tryd.func40, Tryd.ntmps40
  go_wp2_with (fail)
  have W0 := Aside0.mk (show (((w.alloc (.cells #[.pointer (some ⟨g, 0, none⟩)] 79)).alloc (.cells #[.int .i64 0, .string ⟨#[]⟩, .int .i64 0] 87)).alloc (.cells #[.int .i64 p.f0, .string p.f1, .int .i64 p.f2] 109)).heap[w.heap.size]? = some (.cells #[.pointer (some ⟨g, 0, none⟩)] 79 (0, 0)) from blk_alloc (blk_alloc (heap_alloc_new w (.cells #[.pointer (some ⟨g, 0, none⟩)] 79)) (.cells #[.int .i64 0, .string ⟨#[]⟩, .int .i64 0] 87)) (.cells #[.int .i64 p.f0, .string p.f1, .int .i64 p.f2] 109))
  have W1 := Aside0.mk (show (((w.alloc (.cells #[.pointer (some ⟨g, 0, none⟩)] 79)).alloc (.cells #[.int .i64 0, .string ⟨#[]⟩, .int .i64 0] 87)).alloc (.cells #[.int .i64 p.f0, .string p.f1, .int .i64 p.f2] 109)).heap[w.heap.size + 1]? = some (.cells #[.int .i64 0, .string ⟨#[]⟩, .int .i64 0] 87 (0, 0)) from by rw [← World.size_alloc w (.cells #[.pointer (some ⟨g, 0, none⟩)] 79)]; exact blk_alloc (heap_alloc_new (w.alloc (.cells #[.pointer (some ⟨g, 0, none⟩)] 79)) (.cells #[.int .i64 0, .string ⟨#[]⟩, .int .i64 0] 87)) (.cells #[.int .i64 p.f0, .string p.f1, .int .i64 p.f2] 109))
  have W2 := Aside0.mk (show (((w.alloc (.cells #[.pointer (some ⟨g, 0, none⟩)] 79)).alloc (.cells #[.int .i64 0, .string ⟨#[]⟩, .int .i64 0] 87)).alloc (.cells #[.int .i64 p.f0, .string p.f1, .int .i64 p.f2] 109)).heap[w.heap.size + 1 + 1]? = some (.cells #[.int .i64 p.f0, .string p.f1, .int .i64 p.f2] 109 (0, 0)) from by rw [← World.size_alloc w (.cells #[.pointer (some ⟨g, 0, none⟩)] 79), ← World.size_alloc (w.alloc (.cells #[.pointer (some ⟨g, 0, none⟩)] 79)) (.cells #[.int .i64 0, .string ⟨#[]⟩, .int .i64 0] 87)]; exact heap_alloc_new _ _)
  have WL := Aside0.mk (show Lx g T (((w.alloc (.cells #[.pointer (some ⟨g, 0, none⟩)] 79)).alloc (.cells #[.int .i64 0, .string ⟨#[]⟩, .int .i64 0] 87)).alloc (.cells #[.int .i64 p.f0, .string p.f1, .int .i64 p.f2] 109)) s (p :: r) from ((HL.out.alloc _).alloc _).alloc _)
  have WK := Aside0.mk (show Kept (fun k => k = g) w (((w.alloc (.cells #[.pointer (some ⟨g, 0, none⟩)] 79)).alloc (.cells #[.int .i64 0, .string ⟨#[]⟩, .int .i64 0] 87)).alloc (.cells #[.int .i64 p.f0, .string p.f1, .int .i64 p.f2] 109)) from (((Kept.refl _ w).alloc _).alloc _).alloc _)
  have WT := Aside0.mk (show ∃ cur, (((w.alloc (.cells #[.pointer (some ⟨g, 0, none⟩)] 79)).alloc (.cells #[.int .i64 0, .string ⟨#[]⟩, .int .i64 0] 87)).alloc (.cells #[.int .i64 p.f0, .string p.f1, .int .i64 p.f2] 109)).heap[T]? = some (.cells cur 109 (0, 0)) from by
    obtain ⟨cur, hcur⟩ := HTB.out
    exact ⟨cur, blk_alloc (blk_alloc (blk_alloc hcur _) _) _⟩)
  have hws : (((w.alloc (.cells #[.pointer (some ⟨g, 0, none⟩)] 79)).alloc (.cells #[.int .i64 0, .string ⟨#[]⟩, .int .i64 0] 87)).alloc (.cells #[.int .i64 p.f0, .string p.f1, .int .i64 p.f2] 109)).heap.size = w.heap.size + 1 + 1 + 1 := by simp
  have wg1 : (((w.alloc (.cells #[.pointer (some ⟨g, 0, none⟩)] 79)).alloc (.cells #[.int .i64 0, .string ⟨#[]⟩, .int .i64 0] 87)).alloc (.cells #[.int .i64 p.f0, .string p.f1, .int .i64 p.f2] 109)).cell? ⟨g, 1, none⟩ = some (.slice (some ⟨T, off, none⟩) (r.length + 1) c) := (blk_cell_old h1 hg _ _ _)
  have wz1 := blk_frozen (blk_alloc (blk_alloc (blk_alloc (blk_of_lx HL.out).choose_spec.choose_spec (.cells #[.pointer (some ⟨g, 0, none⟩)] 79)) (.cells #[.int .i64 0, .string ⟨#[]⟩, .int .i64 0] 87)) (.cells #[.int .i64 p.f0, .string p.f1, .int .i64 p.f2] 109)) 1
  clear h0 h1 z1 x0 x1 x2 HL HTB
  generalize hW : (((w.alloc (.cells #[.pointer (some ⟨g, 0, none⟩)] 79)).alloc (.cells #[.int .i64 0, .string ⟨#[]⟩, .int .i64 0] 87)).alloc (.cells #[.int .i64 p.f0, .string p.f1, .int .i64 p.f2] 109)) = ws at W0 W1 W2 WL WK WT hws wg1 wz1 ⊢
  clear hW
  obtain ⟨A2, hvt⟩ : ∃ A2 : Option Addr, A2 = (if c = 1 then some ⟨T, off, none⟩ else some ⟨T, off + 3, none⟩) := ⟨_, rfl⟩
  have HVT := Aside0.mk hvt
  clear hvt
  refine start_ (n := 9) (S := fun w' => w'.cell? ⟨w.heap.size, 0, none⟩ = some (.pointer (some ⟨g, 0, none⟩)) ∧ w'.cell? ⟨g, 1, none⟩ = some (.slice (some ⟨T, off, none⟩) (r.length + 1) c)) (ds := [8]) #[false, false, false, false, false, false, false, false, false] (by kernel_rfl) rfl rfl ⟨(blk_cell W0.out 0).trans rfl, wg1⟩ (fun hHeld => ?_)
  ((refine rtake (i := 0) (N := some 19) (v := ?_) (a' := ?_) rfl rfl (by kernel_rfl) (fun _ _ _ h => h) (Or.inl ⟨by rfl, ?_⟩) hHeld ?_ ?_); rotate_left; (· rintro w' ⟨s0, s1⟩; go_simp; with_reducible rfl); rotate_left; (· (simp only [Act.put, List.setIfInBounds_toArray, List.set_cons_zero, List.set_cons_succ, i64_w, i32_w]; rfl)))
  ((refine rtake (i := 1) (N := some 20) (v := ?_) (a' := ?_) rfl rfl (by kernel_rfl) (fun _ _ _ h => h) (Or.inl ⟨by rfl, ?_⟩) hHeld ?_ ?_); rotate_left; (· rintro w' ⟨s0, s1⟩; go_simp; with_reducible rfl); rotate_left; (· (simp only [Act.put, List.setIfInBounds_toArray, List.set_cons_zero, List.set_cons_succ, i64_w, i32_w]; rfl)))
  ((refine rpure (i := 2) (N := some 21) (v := ?_) (a' := ?_) rfl rfl (by kernel_rfl) (fun _ _ _ h => h) (Or.inl ⟨by rfl, ?_⟩) ?_ ?_); rotate_left; (· intro w'; go_simp; with_reducible rfl); rotate_left; (· (simp only [Act.put, List.setIfInBounds_toArray, List.set_cons_zero, List.set_cons_succ, i64_w, i32_w]; rfl)))
  ((refine rpure (i := 3) (N := some 22) (v := ?_) (a' := ?_) rfl rfl (by kernel_rfl) (fun _ _ _ h => h) (Or.inl ⟨by rfl, ?_⟩) ?_ ?_); rotate_left; (· intro w'; go_simp; with_reducible rfl); rotate_left; (· (simp only [Act.put, List.setIfInBounds_toArray, List.set_cons_zero, List.set_cons_succ, i64_w, i32_w]; rfl)))
  ((refine rtake (i := 4) (N := some 23) (v := ?_) (a' := ?_) rfl rfl (by kernel_rfl) (fun _ _ _ h => h) (Or.inl ⟨by rfl, ?_⟩) hHeld ?_ ?_); rotate_left; (· rintro w' ⟨s0, s1⟩; go_simp; with_reducible rfl); rotate_left; (· (simp only [Act.put, List.setIfInBounds_toArray, List.set_cons_zero, List.set_cons_succ, i64_w, i32_w]; rfl)))
  refine rpure (i := 5) (N := some 24) (v := .slice A2 r.length (c - 1)) rfl rfl (by kernel_rfl) (fun _ _ _ h => h) (Or.inl ⟨by rfl, ?_⟩) rfl ?_
  · intro w'
    by_cases hc1 : c = 1
    · have hrl : r.length = 0 := by omega
      rw [HVT.out, if_pos hc1]
      go_simp
    · rw [HVT.out, if_neg hc1]
      go_simp
      intro q
      exact absurd q (by omega)
  refine norm_ (by (simp only [Act.put, List.setIfInBounds_toArray, List.set_cons_zero, List.set_cons_succ, i64_w, i32_w]; rfl)) ?_
  ((refine rpure (i := 6) (N := some 25) (v := ?_) (a' := ?_) rfl rfl (by kernel_rfl) (fun _ _ _ h => h) (Or.inl ⟨by rfl, ?_⟩) ?_ ?_); rotate_left; (· intro w'; go_simp; with_reducible rfl); rotate_left; (· (simp only [Act.put, List.setIfInBounds_toArray, List.set_cons_zero, List.set_cons_succ, i64_w, i32_w]; rfl)))
  ((refine rpure (i := 7) (N := some 26) (v := ?_) (a' := ?_) rfl rfl (by kernel_rfl) (fun _ _ _ h => h) (Or.inl ⟨by rfl, ?_⟩) ?_ ?_); rotate_left; (· intro w'; go_simp; with_reducible rfl); rotate_left; (· (simp only [Act.put, List.setIfInBounds_toArray, List.set_cons_zero, List.set_cons_succ, i64_w, i32_w]; rfl)))
  refine rlast (i := 8) (N := none) rfl rfl (by kernel_rfl) (by decide) (fun K hK => ?_)
  rw [if_pos (by rfl)]
  unfold Oper.wp
  have wz1' : ws.drew.frozen? ⟨g, 1, none⟩ = false := wz1
  go_simp
  refine hK _ _ (done_ (by kernel_rfl) ?_)
  clear hK K
  have V0 := Aside0.mk (show ((ws.setCell ⟨g, 1, none⟩ (.slice A2 r.length (c - 1))).drew).heap[w.heap.size]? = some (.cells #[.pointer (some ⟨g, 0, none⟩)] 79 (0, 0)) from blk_setO (show ws.drew.heap[w.heap.size]? = _ from W0.out) (by omega))
  have V1 := Aside0.mk (show ((ws.setCell ⟨g, 1, none⟩ (.slice A2 r.length (c - 1))).drew).heap[w.heap.size + 1]? = some (.cells #[.int .i64 0, .string ⟨#[]⟩, .int .i64 0] 87 (0, 0)) from blk_setO (show ws.drew.heap[w.heap.size + 1]? = _ from W1.out) (by omega))
  have V2 := Aside0.mk (show ((ws.setCell ⟨g, 1, none⟩ (.slice A2 r.length (c - 1))).drew).heap[w.heap.size + 1 + 1]? = some (.cells #[.int .i64 p.f0, .string p.f1, .int .i64 p.f2] 109 (0, 0)) from blk_setO (show ws.drew.heap[w.heap.size + 1 + 1]? = _ from W2.out) (by omega))
  have VL := Aside0.mk (show LxT g ((ws.setCell ⟨g, 1, none⟩ (.slice A2 r.length (c - 1))).drew) s r from LxT.pass WL.out.drew WT.out wg1 hc (by rw [HVT.out]))
  have VK := Aside0.mk (show Kept (fun k => k = g) w ((ws.setCell ⟨g, 1, none⟩ (.slice A2 r.length (c - 1))).drew) from (WK.out.drew).setCell g 1 (.slice A2 r.length (c - 1)) (Or.inl rfl))
  have hvs : ((ws.setCell ⟨g, 1, none⟩ (.slice A2 r.length (c - 1))).drew).heap.size = w.heap.size + 1 + 1 + 1 := by show (ws.setCell ⟨g, 1, none⟩ (.slice A2 r.length (c - 1))).heap.size = _; rw [World.size_setCell]; exact hws
  clear W0 W1 W2 WL WK WT hws wg1 wz1 wz1' hHeld HVT hT1 hT2 hT3 hTl hTg hc hn0 hr0
  generalize (ws.setCell ⟨g, 1, none⟩ (.slice A2 r.length (c - 1))).drew = wv at V0 V1 V2 VL VK hvs ⊢
  have v0 := blk_cell V0.out 0
  have v1 := fun i => blk_cell V1.out i
  have v2 := fun i => blk_cell V2.out i
  have fz1 := fun i => blk_frozen V1.out i
  have hv0 : w.heap.size < wv.heap.size := by omega
  have hv1 : w.heap.size + 1 < wv.heap.size := by omega
  have hv2 : w.heap.size + 1 + 1 < wv.heap.size := by omega
  have hvg : g < wv.heap.size := by omega
  have hv0' : ∀ k, w.heap.size < wv.heap.size + k := fun k => by omega
  have hv1' : ∀ k, w.heap.size + 1 < wv.heap.size + k := fun k => by omega
  have hv2' : ∀ k, w.heap.size + 1 + 1 < wv.heap.size + k := fun k => by omega
  unfold sQuote at c0
  obtain ⟨c0a, c0b⟩ := ne_lit c0
  have c1f := eq_false c1
  have c2f := eq_false c2
  obtain ⟨e1, e2⟩ := wrap_pos (x := 1) HPI.out HS.out (by omega) (by omega)
  go_wp2_with (fail)
  have hf26 : ∀ args w, (callFunc 56 args).run Tryd.prog w = .ok (.enter 56 args) w := enters_of Tryd.func56 (by kernel_rfl) rfl
  have hpc : ∀ q r', r = q :: r' → q.f2 = p.f2 + 1 → Calls Tryd.prog 56 (#[ptV q] ++ #[.pointer (some ⟨w.heap.size + 1 + 1, 0, none⟩)]) (wv.alloc (.cells #[.int .i64 3, .string p.f1, .int .i64 p.f2] 87)) fun e w' => e = .returned (.bool (hasB pairs4 (p.f1 ++ q.f1))) ∧ Below (wv.alloc (.cells #[.int .i64 3, .string p.f1, .int .i64 p.f2] 87)).heap.size (wv.alloc (.cells #[.int .i64 3, .string p.f1, .int .i64 p.f2] 87)) w' := fun q r' hq _ =>
    pair_calls' p q (w.heap.size + 1 + 1) _ ((blk_cell (blk_alloc V2.out _) 1).trans rfl) (lt_alloc hv2 _) (sizes_in HPI.out (HPR.out q (by rw [hq]; simp)) HS.out)
  have hta := ltake_any 56 hf26 #[.pointer (some ⟨w.heap.size + 1 + 1, 0, none⟩)] g (wv.alloc (.cells #[.int .i64 3, .string p.f1, .int .i64 p.f2] 87)) s r (p.f2 + 1) (fun q _ => hasB pairs4 (p.f1 ++ q.f1)) (VL.out.below (below_alloc (Below.refl _ _) _)) hpc
  refine hta.mono ?_
  rintro e w5 ⟨rfl, hL5, hK5⟩
  have htl := take_in (pos := p.f2 + 1) (pred := fun q _ => hasB pairs4 (p.f1 ++ q.f1)) HPR.out HS.out
  have hsp := signP_take p r
  have HSP := Aside0.mk hsp
  clear hsp
  generalize takeR (p.f2 + 1) (fun q _ => hasB pairs4 (p.f1 ++ q.f1)) r = tk at hL5 htl HSP ⊢
  obtain ⟨mt, mo, ml⟩ := tk
  have U1 := Aside0.mk (hK5.blk (blk_alloc V1.out _) (by omega))
  have U4 := Aside0.mk (show w5.heap[w.heap.size + 1 + 1 + 1]? = some (.cells #[.int .i64 3, .string p.f1, .int .i64 p.f2] 87 (0, 0)) from hK5.blk (by rw [← hvs]; exact heap_alloc_new wv _) (by omega))
  have UK := Aside0.mk (Kept.trans (VK.out.alloc (.cells #[.int .i64 3, .string p.f1, .int .i64 p.f2] 87)) hK5 (fun _ _ q => q))
  have UL := Aside0.mk hL5
  have us := hK5.size
  have hcat := cat_ok HPI.out HS.out htl
  clear v0 v1 v2 fz1 hL5 hK5 VL VK V0 V1 V2 htl
  have v1 := fun i => blk_cell U1.out i
  have v4 := fun i => blk_cell U4.out i
  have f1 := fun i => blk_frozen U1.out i
  have f4 := fun i => blk_frozen U4.out i
  have hu1 : w.heap.size + 1 < w5.heap.size := blk_lt U1.out
  have hu4 : w.heap.size + 1 + 1 + 1 < w5.heap.size := blk_lt U4.out
  go_wp2_with (fail)
  ((try simp only [Exit.inBlock, Exit.then]); refine bodyPost_ret (by simp [results, Tryd.results40, go_sem, *]; try rfl) rfl ?_)
  rw [HSP.out]
  have k6 : Kept (fun j => j = w.heap.size + 1 ∨ j = w.heap.size + 1 + 1 + 1) w5 ((((w5.setCell ⟨w.heap.size + 1 + 1 + 1, 1, none⟩ (.string (p.f1 ++ mt))).setCell ⟨w.heap.size + 1, 0, none⟩ (.int .i64 3)).setCell ⟨w.heap.size + 1, 1, none⟩ (.string (p.f1 ++ mt))).setCell ⟨w.heap.size + 1, 2, none⟩ (.int .i64 p.f2)) := by
    repeat' (first | exact Kept.refl _ _ | (refine Kept.setCell ?_ _ _ _ (Or.inl (Or.inl rfl))) | (refine Kept.setCell ?_ _ _ _ (Or.inl (Or.inr rfl))))
  exact ⟨rfl, lx_set2 UL.out U1.out U4.out (by omega) (by omega) k6, Kept.trans UK.out k6 (fun j hj q => by rcases q with q | q <;> omega)⟩
set_option maxHeartbeats 2000000 in
set_option maxRecDepth 100000 in
theorem tok_num (g T : Nat) (w : World) (s : ByteArray) (p : Pt) (r : List Pt) (hL : Lx g T w s (p :: r)) (hTb : ∃ cur, w.heap[T]? = some (.cells cur 109 (0, 0))) (hpi : PartIn s p) (hpr : ∀ q ∈ r, PartIn s q) (hs : s.size ≤ 40000) (hll : r.length ≤ 100000) (c0 : ¬ p.f1 = sQuote) (C1 : Aside0 (p.f0 = 1)) : Calls Tryd.prog 40 #[.pointer (some ⟨g, 0, none⟩)] w (TokPost g w s (numP p r)) := by
  have hg := hL.lt
  have hg1 : ∀ k, g < w.heap.size + k := fun k => by omega
  have hmf := makeFunc_run
  obtain ⟨off, c, h0, h1, z1, hc, hTg, hTl, x0, x1, x2, hC⟩ := hL.cells
  have hT1 : ∀ k, T < w.heap.size + k := fun k => by omega
  have hT2 : T < w.heap.size + 1 + 1 := by omega
  have hg2 : g < w.heap.size + 1 + 1 := by omega
  have hT3 : T < w.heap.size + 1 + 1 + 1 := by omega
  have hg3 : g < w.heap.size + 1 + 1 + 1 := by omega
  have hn0 : (0 : Int) < (r.length : Int) + 1 := by omega
  have hr0 : ((r.length : Int) + 1 = 0) = False := eq_false (by omega)
  have HL := Aside0.mk hL
  have HTB := Aside0.mk hTb
  have HS := Aside0.mk hs
  have HPI := Aside0.mk hpi
  have HPR := Aside0.mk hpr
  have HLL := Aside0.mk hll
  clear hL hTb hs hpi hpr hll hC
  go_enter Tryd.func40, Tryd.ntmps40
  go_wp2_with (fail)
  have W0 := Aside0.mk (show (((w.alloc (.cells #[.pointer (some ⟨g, 0, none⟩)] 79)).alloc (.cells #[.int .i64 0, .string ⟨#[]⟩, .int .i64 0] 87)).alloc (.cells #[.int .i64 p.f0, .string p.f1, .int .i64 p.f2] 109)).heap[w.heap.size]? = some (.cells #[.pointer (some ⟨g, 0, none⟩)] 79 (0, 0)) from blk_alloc (blk_alloc (heap_alloc_new w (.cells #[.pointer (some ⟨g, 0, none⟩)] 79)) (.cells #[.int .i64 0, .string ⟨#[]⟩, .int .i64 0] 87)) (.cells #[.int .i64 p.f0, .string p.f1, .int .i64 p.f2] 109))
  have W1 := Aside0.mk (show (((w.alloc (.cells #[.pointer (some ⟨g, 0, none⟩)] 79)).alloc (.cells #[.int .i64 0, .string ⟨#[]⟩, .int .i64 0] 87)).alloc (.cells #[.int .i64 p.f0, .string p.f1, .int .i64 p.f2] 109)).heap[w.heap.size + 1]? = some (.cells #[.int .i64 0, .string ⟨#[]⟩, .int .i64 0] 87 (0, 0)) from by rw [← World.size_alloc w (.cells #[.pointer (some ⟨g, 0, none⟩)] 79)]; exact blk_alloc (heap_alloc_new (w.alloc (.cells #[.pointer (some ⟨g, 0, none⟩)] 79)) (.cells #[.int .i64 0, .string ⟨#[]⟩, .int .i64 0] 87)) (.cells #[.int .i64 p.f0, .string p.f1, .int .i64 p.f2] 109))
  have W2 := Aside0.mk (show (((w.alloc (.cells #[.pointer (some ⟨g, 0, none⟩)] 79)).alloc (.cells #[.int .i64 0, .string ⟨#[]⟩, .int .i64 0] 87)).alloc (.cells #[.int .i64 p.f0, .string p.f1, .int .i64 p.f2] 109)).heap[w.heap.size + 1 + 1]? = some (.cells #[.int .i64 p.f0, .string p.f1, .int .i64 p.f2] 109 (0, 0)) from by rw [← World.size_alloc w (.cells #[.pointer (some ⟨g, 0, none⟩)] 79), ← World.size_alloc (w.alloc (.cells #[.pointer (some ⟨g, 0, none⟩)] 79)) (.cells #[.int .i64 0, .string ⟨#[]⟩, .int .i64 0] 87)]; exact heap_alloc_new _ _)
  have WL := Aside0.mk (show Lx g T (((w.alloc (.cells #[.pointer (some ⟨g, 0, none⟩)] 79)).alloc (.cells #[.int .i64 0, .string ⟨#[]⟩, .int .i64 0] 87)).alloc (.cells #[.int .i64 p.f0, .string p.f1, .int .i64 p.f2] 109)) s (p :: r) from ((HL.out.alloc _).alloc _).alloc _)
  have WK := Aside0.mk (show Kept (fun k => k = g) w (((w.alloc (.cells #[.pointer (some ⟨g, 0, none⟩)] 79)).alloc (.cells #[.int .i64 0, .string ⟨#[]⟩, .int .i64 0] 87)).alloc (.cells #[.int .i64 p.f0, .string p.f1, .int .i64 p.f2] 109)) from (((Kept.refl _ w).alloc _).alloc _).alloc _)
  have WT := Aside0.mk (show ∃ cur, (((w.alloc (.cells #[.pointer (some ⟨g, 0, none⟩)] 79)).alloc (.cells #[.int .i64 0, .string ⟨#[]⟩, .int .i64 0] 87)).alloc (.cells #[.int .i64 p.f0, .string p.f1, .int .i64 p.f2] 109)).heap[T]? = some (.cells cur 109 (0, 0)) from by
    obtain ⟨cur, hcur⟩ := HTB.out
    exact ⟨cur, blk_alloc (blk_alloc (blk_alloc hcur _) _) _⟩)
  have hws : (((w.alloc (.cells #[.pointer (some ⟨g, 0, none⟩)] 79)).alloc (.cells #[.int .i64 0, .string ⟨#[]⟩, .int .i64 0] 87)).alloc (.cells #[.int .i64 p.f0, .string p.f1, .int .i64 p.f2] 109)).heap.size = w.heap.size + 1 + 1 + 1 := by simp
  have wg1 : (((w.alloc (.cells #[.pointer (some ⟨g, 0, none⟩)] 79)).alloc (.cells #[.int .i64 0, .string ⟨#[]⟩, .int .i64 0] 87)).alloc (.cells #[.int .i64 p.f0, .string p.f1, .int .i64 p.f2] 109)).cell? ⟨g, 1, none⟩ = some (.slice (some ⟨T, off, none⟩) (r.length + 1) c) := (blk_cell_old h1 hg _ _ _)
  have wz1 := blk_frozen (blk_alloc (blk_alloc (blk_alloc (blk_of_lx HL.out).choose_spec.choose_spec (.cells #[.pointer (some ⟨g, 0, none⟩)] 79)) (.cells #[.int .i64 0, .string ⟨#[]⟩, .int .i64 0] 87)) (.cells #[.int .i64 p.f0, .string p.f1, .int .i64 p.f2] 109)) 1
  clear h0 h1 z1 x0 x1 x2 HL HTB
  generalize hW : (((w.alloc (.cells #[.pointer (some ⟨g, 0, none⟩)] 79)).alloc (.cells #[.int .i64 0, .string ⟨#[]⟩, .int .i64 0] 87)).alloc (.cells #[.int .i64 p.f0, .string p.f1, .int .i64 p.f2] 109)) = ws at W0 W1 W2 WL WK WT hws wg1 wz1 ⊢
  clear hW
  obtain ⟨A2, hvt⟩ : ∃ A2 : Option Addr, A2 = (if c = 1 then some ⟨T, off, none⟩ else some ⟨T, off + 3, none⟩) := ⟨_, rfl⟩
  have HVT := Aside0.mk hvt
  clear hvt
  refine start_ (n := 9) (S := fun w' => w'.cell? ⟨w.heap.size, 0, none⟩ = some (.pointer (some ⟨g, 0, none⟩)) ∧ w'.cell? ⟨g, 1, none⟩ = some (.slice (some ⟨T, off, none⟩) (r.length + 1) c)) (ds := [8]) #[false, false, false, false, false, false, false, false, false] (by kernel_rfl) rfl rfl ⟨(blk_cell W0.out 0).trans rfl, wg1⟩ (fun hHeld => ?_)
  ((refine rtake (i := 0) (N := some 19) (v := ?_) (a' := ?_) rfl rfl (by kernel_rfl) (fun _ _ _ h => h) (Or.inl ⟨by rfl, ?_⟩) hHeld ?_ ?_); rotate_left; (· rintro w' ⟨s0, s1⟩; go_simp; with_reducible rfl); rotate_left; (· (simp only [Act.put, List.setIfInBounds_toArray, List.set_cons_zero, List.set_cons_succ, i64_w, i32_w]; rfl)))
  ((refine rtake (i := 1) (N := some 20) (v := ?_) (a' := ?_) rfl rfl (by kernel_rfl) (fun _ _ _ h => h) (Or.inl ⟨by rfl, ?_⟩) hHeld ?_ ?_); rotate_left; (· rintro w' ⟨s0, s1⟩; go_simp; with_reducible rfl); rotate_left; (· (simp only [Act.put, List.setIfInBounds_toArray, List.set_cons_zero, List.set_cons_succ, i64_w, i32_w]; rfl)))
  ((refine rpure (i := 2) (N := some 21) (v := ?_) (a' := ?_) rfl rfl (by kernel_rfl) (fun _ _ _ h => h) (Or.inl ⟨by rfl, ?_⟩) ?_ ?_); rotate_left; (· intro w'; go_simp; with_reducible rfl); rotate_left; (· (simp only [Act.put, List.setIfInBounds_toArray, List.set_cons_zero, List.set_cons_succ, i64_w, i32_w]; rfl)))
  ((refine rpure (i := 3) (N := some 22) (v := ?_) (a' := ?_) rfl rfl (by kernel_rfl) (fun _ _ _ h => h) (Or.inl ⟨by rfl, ?_⟩) ?_ ?_); rotate_left; (· intro w'; go_simp; with_reducible rfl); rotate_left; (· (simp only [Act.put, List.setIfInBounds_toArray, List.set_cons_zero, List.set_cons_succ, i64_w, i32_w]; rfl)))
  ((refine rtake (i := 4) (N := some 23) (v := ?_) (a' := ?_) rfl rfl (by kernel_rfl) (fun _ _ _ h => h) (Or.inl ⟨by rfl, ?_⟩) hHeld ?_ ?_); rotate_left; (· rintro w' ⟨s0, s1⟩; go_simp; with_reducible rfl); rotate_left; (· (simp only [Act.put, List.setIfInBounds_toArray, List.set_cons_zero, List.set_cons_succ, i64_w, i32_w]; rfl)))
  refine rpure (i := 5) (N := some 24) (v := .slice A2 r.length (c - 1)) rfl rfl (by kernel_rfl) (fun _ _ _ h => h) (Or.inl ⟨by rfl, ?_⟩) rfl ?_
  · intro w'
    by_cases hc1 : c = 1
    · have hrl : r.length = 0 := by omega
      rw [HVT.out, if_pos hc1]
      go_simp
    · rw [HVT.out, if_neg hc1]
      go_simp
      intro q
      exact absurd q (by omega)
  refine norm_ (by (simp only [Act.put, List.setIfInBounds_toArray, List.set_cons_zero, List.set_cons_succ, i64_w, i32_w]; rfl)) ?_
  ((refine rpure (i := 6) (N := some 25) (v := ?_) (a' := ?_) rfl rfl (by kernel_rfl) (fun _ _ _ h => h) (Or.inl ⟨by rfl, ?_⟩) ?_ ?_); rotate_left; (· intro w'; go_simp; with_reducible rfl); rotate_left; (· (simp only [Act.put, List.setIfInBounds_toArray, List.set_cons_zero, List.set_cons_succ, i64_w, i32_w]; rfl)))
  ((refine rpure (i := 7) (N := some 26) (v := ?_) (a' := ?_) rfl rfl (by kernel_rfl) (fun _ _ _ h => h) (Or.inl ⟨by rfl, ?_⟩) ?_ ?_); rotate_left; (· intro w'; go_simp; with_reducible rfl); rotate_left; (· (simp only [Act.put, List.setIfInBounds_toArray, List.set_cons_zero, List.set_cons_succ, i64_w, i32_w]; rfl)))
  refine rlast (i := 8) (N := none) rfl rfl (by kernel_rfl) (by decide) (fun K hK => ?_)
  rw [if_pos (by rfl)]
  unfold Oper.wp
  have wz1' : ws.drew.frozen? ⟨g, 1, none⟩ = false := wz1
  go_simp
  refine hK _ _ (done_ (by kernel_rfl) ?_)
  clear hK K
  have V0 := Aside0.mk (show ((ws.setCell ⟨g, 1, none⟩ (.slice A2 r.length (c - 1))).drew).heap[w.heap.size]? = some (.cells #[.pointer (some ⟨g, 0, none⟩)] 79 (0, 0)) from blk_setO (show ws.drew.heap[w.heap.size]? = _ from W0.out) (by omega))
  have V1 := Aside0.mk (show ((ws.setCell ⟨g, 1, none⟩ (.slice A2 r.length (c - 1))).drew).heap[w.heap.size + 1]? = some (.cells #[.int .i64 0, .string ⟨#[]⟩, .int .i64 0] 87 (0, 0)) from blk_setO (show ws.drew.heap[w.heap.size + 1]? = _ from W1.out) (by omega))
  have V2 := Aside0.mk (show ((ws.setCell ⟨g, 1, none⟩ (.slice A2 r.length (c - 1))).drew).heap[w.heap.size + 1 + 1]? = some (.cells #[.int .i64 p.f0, .string p.f1, .int .i64 p.f2] 109 (0, 0)) from blk_setO (show ws.drew.heap[w.heap.size + 1 + 1]? = _ from W2.out) (by omega))
  have VL := Aside0.mk (show LxT g ((ws.setCell ⟨g, 1, none⟩ (.slice A2 r.length (c - 1))).drew) s r from LxT.pass WL.out.drew WT.out wg1 hc (by rw [HVT.out]))
  have VK := Aside0.mk (show Kept (fun k => k = g) w ((ws.setCell ⟨g, 1, none⟩ (.slice A2 r.length (c - 1))).drew) from (WK.out.drew).setCell g 1 (.slice A2 r.length (c - 1)) (Or.inl rfl))
  have hvs : ((ws.setCell ⟨g, 1, none⟩ (.slice A2 r.length (c - 1))).drew).heap.size = w.heap.size + 1 + 1 + 1 := by show (ws.setCell ⟨g, 1, none⟩ (.slice A2 r.length (c - 1))).heap.size = _; rw [World.size_setCell]; exact hws
  clear W0 W1 W2 WL WK WT hws wg1 wz1 wz1' hHeld HVT hT1 hT2 hT3 hTl hTg hc hn0 hr0
  generalize (ws.setCell ⟨g, 1, none⟩ (.slice A2 r.length (c - 1))).drew = wv at V0 V1 V2 VL VK hvs ⊢
  have v0 := blk_cell V0.out 0
  have v1 := fun i => blk_cell V1.out i
  have v2 := fun i => blk_cell V2.out i
  have fz1 := fun i => blk_frozen V1.out i
  have hv0 : w.heap.size < wv.heap.size := by omega
  have hv1 : w.heap.size + 1 < wv.heap.size := by omega
  have hv2 : w.heap.size + 1 + 1 < wv.heap.size := by omega
  have hvg : g < wv.heap.size := by omega
  have hv0' : ∀ k, w.heap.size < wv.heap.size + k := fun k => by omega
  have hv1' : ∀ k, w.heap.size + 1 < wv.heap.size + k := fun k => by omega
  have hv2' : ∀ k, w.heap.size + 1 + 1 < wv.heap.size + k := fun k => by omega
  unfold sQuote at c0
  obtain ⟨c0a, c0b⟩ := ne_lit c0
  have c1 := C1.out
  obtain ⟨e1, e2⟩ := wrap_pos (x := (p.f1.size : Int)) HPI.out HS.out (by omega) (by omega)
  go_wp2_with (fail)
  have hf21 : ∀ args w, (callFunc 51 args).run Tryd.prog w = .ok (.enter 51 args) w := enters_of Tryd.func51 (by kernel_rfl) rfl
  have TL := Aside0.mk (VL.out.below (below_alloc (Below.refl _ _) (.cells #[.int .i64 0, .string p.f1, .int .i64 p.f2] 87)))
  have hpc : ∀ q r', r = q :: r' → q.f2 = p.f2 + p.f1.size → Calls Tryd.prog 51 (#[ptV q] ++ #[.pointer (some ⟨w.heap.size, 0, none⟩)]) (wv.alloc (.cells #[.int .i64 0, .string p.f1, .int .i64 p.f2] 87)) fun e w' => e = .returned (.bool (pointB q r')) ∧ Below (wv.alloc (.cells #[.int .i64 0, .string p.f1, .int .i64 p.f2] 87)).heap.size (wv.alloc (.cells #[.int .i64 0, .string p.f1, .int .i64 p.f2] 87)) w' := fun q r' hq _ => by
    have hL' := TL.out
    have hqi := HPR.out q (by rw [hq]; simp)
    rw [hq] at hL'
    exact point_any w.heap.size g _ s q q r' (blk_alloc V0.out _) hL' hqi HS.out
  have hta := ltake_any 51 hf21 #[.pointer (some ⟨w.heap.size, 0, none⟩)] g (wv.alloc (.cells #[.int .i64 0, .string p.f1, .int .i64 p.f2] 87)) s r (p.f2 + p.f1.size) pointB TL.out hpc
  refine hta.mono ?_
  rintro e w5 ⟨rfl, hL5, hK5⟩
  have U0 := Aside0.mk (hK5.blk (blk_alloc V0.out _) (by omega))
  have U1 := Aside0.mk (hK5.blk (blk_alloc V1.out _) (by omega))
  have U4 := Aside0.mk (show w5.heap[w.heap.size + 1 + 1 + 1]? = some (.cells #[.int .i64 0, .string p.f1, .int .i64 p.f2] 87 (0, 0)) from hK5.blk (by rw [← hvs]; exact heap_alloc_new wv _) (by omega))
  have UK := Aside0.mk (Kept.trans (VK.out.alloc (.cells #[.int .i64 0, .string p.f1, .int .i64 p.f2] 87)) hK5 (fun _ _ q => q))
  have UL := Aside0.mk hL5
  clear v0 v1 v2 fz1 hL5 hK5 VL VK V0 V1 V2 hta hpc TL
  have u0 := blk_cell U0.out 0
  have v1 := fun i => blk_cell U1.out i
  have v4 := fun i => blk_cell U4.out i
  have f1 := fun i => blk_frozen U1.out i
  have f4 := fun i => blk_frozen U4.out i
  have hu1 : w.heap.size + 1 < w5.heap.size := blk_lt U1.out
  have hu4 : w.heap.size + 1 + 1 + 1 < w5.heap.size := blk_lt U4.out
  cases hok : (takeR (p.f2 + p.f1.size) pointB r).2.1 with
  | false =>
    have HN := Aside0.mk (numP_no p r hok)
    generalize takeR (p.f2 + p.f1.size) pointB r = tk at UL HN ⊢
    go_wp2_with (fail)
    ((try simp only [Exit.inBlock, Exit.then]); refine bodyPost_ret (by simp [results, Tryd.results40, go_sem, *]; try rfl) rfl ?_)
    rw [HN.out]
    have k6 : Kept (fun j => j = w.heap.size + 1 ∨ j = w.heap.size + 1) w5 (((w5.setCell ⟨w.heap.size + 1, 0, none⟩ (.int .i64 0)).setCell ⟨w.heap.size + 1, 1, none⟩ (.string p.f1)).setCell ⟨w.heap.size + 1, 2, none⟩ (.int .i64 p.f2)) := by
      repeat' (first | exact Kept.refl _ _ | (refine Kept.setCell ?_ _ _ _ (Or.inl (Or.inl rfl))))
    exact ⟨rfl, lx_set2 UL.out U1.out U1.out (by omega) (by omega) k6, Kept.trans UK.out k6 (fun j hj q => by rcases q with q | q <;> omega)⟩
  | true =>
    obtain ⟨q2, r2, htk, hnum, hq2⟩ := numP_yes p r hok
    have HN := Aside0.mk hnum
    have hsz2 := Aside0.mk (sizes_in HPI.out (HPR.out q2 hq2) HS.out)
    have hl5 := UL.out
    rw [htk] at hl5
    have UL5 := Aside0.mk hl5
    clear hnum UL htk hl5
    generalize takeR (p.f2 + p.f1.size) pointB r = tk
    go_wp2_with (fail)
    obtain ⟨T5, hLx5, hT5⟩ := UL5.out
    obtain ⟨off5, c5, g50, g51, gz51, hc5, hTg5, hTl5, y0, y1, y2, hC5⟩ := hLx5.cells
    obtain ⟨hc86, hc86', hc87, hc87'⟩ := cat2_ok hsz2.out
    replace hc86 := eq_false (Nat.not_lt.2 hc86)
    replace hc86' := eq_false (Nat.not_lt.2 hc86')
    replace hc87 := eq_false (Nat.not_lt.2 hc87)
    replace hc87' := eq_false (Nat.not_lt.2 hc87')
    have hn5 : (0 : Int) < (r2.length : Int) + 1 := by omega
    have hgw5 : g < w5.heap.size := hLx5.lt
    refine start_ (n := 13) (S := fun w' => w'.cell? ⟨w.heap.size + 1 + 1 + 1, 1, none⟩ = some (.string p.f1) ∧ w'.cell? ⟨w.heap.size, 0, none⟩ = some (.pointer (some ⟨g, 0, none⟩)) ∧ w'.cell? ⟨g, 1, none⟩ = some (.slice (some ⟨T5, off5, none⟩) (r2.length + 1) c5) ∧ w'.cell? ⟨T5, off5 + 1, none⟩ = some (.string q2.f1)) (ds := [12]) (Array.replicate 13 false) (by kernel_rfl) rfl rfl ⟨(v4 1).trans rfl, u0.trans rfl, g51, y1⟩ (fun hHeld => ?_)
    ((refine rpure (i := 0) (N := some 77) (v := ?_) (a' := ?_) rfl rfl (by kernel_rfl) (fun _ _ _ h => h) (Or.inl ⟨by rfl, ?_⟩) ?_ ?_); rotate_left; (· intro w'; go_simp; with_reducible rfl); rotate_left; (· (simp only [Act.put, List.setIfInBounds_toArray, List.set_cons_zero, List.set_cons_succ, i64_w, i32_w]; rfl)))
    ((refine rtake (i := 1) (N := some 78) (v := ?_) (a' := ?_) rfl rfl (by kernel_rfl) (fun _ _ _ h => h) (Or.inl ⟨by rfl, ?_⟩) hHeld ?_ ?_); rotate_left; (· rintro w' ⟨s0, s1, s2, s3⟩; go_simp; with_reducible rfl); rotate_left; (· (simp only [Act.put, List.setIfInBounds_toArray, List.set_cons_zero, List.set_cons_succ, i64_w, i32_w]; rfl)))
    ((refine rtake (i := 2) (N := some 79) (v := ?_) (a' := ?_) rfl rfl (by kernel_rfl) (fun _ _ _ h => h) (Or.inl ⟨by rfl, ?_⟩) hHeld ?_ ?_); rotate_left; (· rintro w' ⟨s0, s1, s2, s3⟩; go_simp; with_reducible rfl); rotate_left; (· (simp only [Act.put, List.setIfInBounds_toArray, List.set_cons_zero, List.set_cons_succ, i64_w, i32_w]; rfl)))
    ((refine rpure (i := 3) (N := some 80) (v := ?_) (a' := ?_) rfl rfl (by kernel_rfl) (fun _ _ _ h => h) (Or.inl ⟨by rfl, ?_⟩) ?_ ?_); rotate_left; (· intro w'; go_simp; with_reducible rfl); rotate_left; (· (simp only [Act.put, List.setIfInBounds_toArray, List.set_cons_zero, List.set_cons_succ, i64_w, i32_w]; rfl)))
    ((refine rpure (i := 4) (N := some 81) (v := ?_) (a' := ?_) rfl rfl (by kernel_rfl) (fun _ _ _ h => h) (Or.inl ⟨by rfl, ?_⟩) ?_ ?_); rotate_left; (· intro w'; go_simp; with_reducible rfl); rotate_left; (· (simp only [Act.put, List.setIfInBounds_toArray, List.set_cons_zero, List.set_cons_succ, i64_w, i32_w]; rfl)))
    ((refine rtake (i := 5) (N := some 82) (v := ?_) (a' := ?_) rfl rfl (by kernel_rfl) (fun _ _ _ h => h) (Or.inl ⟨by rfl, ?_⟩) hHeld ?_ ?_); rotate_left; (· rintro w' ⟨s0, s1, s2, s3⟩; go_simp; with_reducible rfl); rotate_left; (· (simp only [Act.put, List.setIfInBounds_toArray, List.set_cons_zero, List.set_cons_succ, i64_w, i32_w]; rfl)))
    ((refine rpure (i := 6) (N := some 83) (v := ?_) (a' := ?_) rfl rfl (by kernel_rfl) (fun _ _ _ h => h) (Or.inl ⟨by rfl, ?_⟩) ?_ ?_); rotate_left; (· intro w'; go_simp; with_reducible rfl); rotate_left; (· (simp only [Act.put, List.setIfInBounds_toArray, List.set_cons_zero, List.set_cons_succ, i64_w, i32_w]; rfl)))
    ((refine rpure (i := 7) (N := some 84) (v := ?_) (a' := ?_) rfl rfl (by kernel_rfl) (fun _ _ _ h => h) (Or.inl ⟨by rfl, ?_⟩) ?_ ?_); rotate_left; (· intro w'; go_simp; with_reducible rfl); rotate_left; (· (simp only [Act.put, List.setIfInBounds_toArray, List.set_cons_zero, List.set_cons_succ, i64_w, i32_w]; rfl)))
    ((refine rtake (i := 8) (N := some 85) (v := ?_) (a' := ?_) rfl rfl (by kernel_rfl) (fun _ _ _ h => h) (Or.inl ⟨by rfl, ?_⟩) hHeld ?_ ?_); rotate_left; (· rintro w' ⟨s0, s1, s2, s3⟩; go_simp; with_reducible rfl); rotate_left; (· (simp only [Act.put, List.setIfInBounds_toArray, List.set_cons_zero, List.set_cons_succ, i64_w, i32_w]; rfl)))
    ((refine rpure (i := 9) (N := some 86) (v := ?_) (a' := ?_) rfl rfl (by kernel_rfl) (fun _ _ _ h => h) (Or.inl ⟨by rfl, ?_⟩) ?_ ?_); rotate_left; (· intro w'; go_simp; with_reducible rfl); rotate_left; (· (simp only [Act.put, List.setIfInBounds_toArray, List.set_cons_zero, List.set_cons_succ, i64_w, i32_w]; rfl)))
    ((refine rpure (i := 10) (N := some 87) (v := ?_) (a' := ?_) rfl rfl (by kernel_rfl) (fun _ _ _ h => h) (Or.inl ⟨by rfl, ?_⟩) ?_ ?_); rotate_left; (· intro w'; go_simp; with_reducible rfl); rotate_left; (· (simp only [Act.put, List.setIfInBounds_toArray, List.set_cons_zero, List.set_cons_succ, i64_w, i32_w]; rfl)))
    ((refine rpure (i := 11) (N := some 88) (v := ?_) (a' := ?_) rfl rfl (by kernel_rfl) (fun _ _ _ h => h) (Or.inl ⟨by rfl, ?_⟩) ?_ ?_); rotate_left; (· intro w'; go_simp; with_reducible rfl); rotate_left; (· (simp only [Act.put, List.setIfInBounds_toArray, List.set_cons_zero, List.set_cons_succ, i64_w, i32_w]; rfl)))
    refine rlast (i := 12) (N := none) rfl rfl (by kernel_rfl) (by decide) (fun K hK => ?_)
    rw [if_pos (by rfl)]
    unfold Oper.wp
    have v4' := fun i => (show w5.drew.cell? ⟨w.heap.size + 1 + 1 + 1, i, none⟩ = _ from v4 i)
    have f4' := fun i => (show w5.drew.frozen? ⟨w.heap.size + 1 + 1 + 1, i, none⟩ = _ from f4 i)
    go_simp
    refine hK _ _ (done_ (by kernel_rfl) ?_)
    clear hK K hHeld v4' f4'
    have X0 := Aside0.mk (show ((w5.setCell ⟨w.heap.size + 1 + 1 + 1, 1, none⟩ (.string (p.f1 ++ ((⟨#[46]⟩ : ByteArray) ++ q2.f1)))).drew).heap[w.heap.size]? = some (.cells #[.pointer (some ⟨g, 0, none⟩)] 79 (0, 0)) from blk_setO U0.out (by omega))
    have X1 := Aside0.mk (show ((w5.setCell ⟨w.heap.size + 1 + 1 + 1, 1, none⟩ (.string (p.f1 ++ ((⟨#[46]⟩ : ByteArray) ++ q2.f1)))).drew).heap[w.heap.size + 1]? = some (.cells #[.int .i64 0, .string ⟨#[]⟩, .int .i64 0] 87 (0, 0)) from blk_setO U1.out (by omega))
    have X4 := Aside0.mk (show ((w5.setCell ⟨w.heap.size + 1 + 1 + 1, 1, none⟩ (.string (p.f1 ++ ((⟨#[46]⟩ : ByteArray) ++ q2.f1)))).drew).heap[w.heap.size + 1 + 1 + 1]? = some (.cells #[.int .i64 0, .string (p.f1 ++ ((⟨#[46]⟩ : ByteArray) ++ q2.f1)), .int .i64 p.f2] 87 (0, 0)) from blk_set U4.out 1 _)
    have kx : Kept (fun j => j = w.heap.size + 1 + 1 + 1) w5 ((w5.setCell ⟨w.heap.size + 1 + 1 + 1, 1, none⟩ (.string (p.f1 ++ ((⟨#[46]⟩ : ByteArray) ++ q2.f1)))).drew) := ((Kept.refl (fun j => j = w.heap.size + 1 + 1 + 1) w5).setCell (w.heap.size + 1 + 1 + 1) 1 _ (Or.inl rfl)).drew
    have hcur5 : ∃ cur, w5.heap[T5]? = some (.cells cur 109 (0, 0)) := hT5 (by simp)
    have hT54 : T5 ≠ w.heap.size + 1 + 1 + 1 := by
      intro q
      obtain ⟨cur, hcur⟩ := hcur5
      rw [q, U4.out] at hcur
      injection hcur with hcur
      injection hcur with _ hcur _
      cases hcur
    have XT := Aside0.mk (show ∃ cur, ((w5.setCell ⟨w.heap.size + 1 + 1 + 1, 1, none⟩ (.string (p.f1 ++ ((⟨#[46]⟩ : ByteArray) ++ q2.f1)))).drew).heap[T5]? = some (.cells cur 109 (0, 0)) from by
      obtain ⟨cur, hcur⟩ := hcur5
      exact ⟨cur, kx.blk hcur hT54⟩)
    have XL := Aside0.mk (show Lx g T5 ((w5.setCell ⟨w.heap.size + 1 + 1 + 1, 1, none⟩ (.string (p.f1 ++ ((⟨#[46]⟩ : ByteArray) ++ q2.f1)))).drew) s (q2 :: r2) from hLx5.same (kx.block g hgw5 (by omega)) (fun _ => kx.block T5 hTl5 hT54))
    have XK := Aside0.mk (show Kept (fun k => k = g) w ((w5.setCell ⟨w.heap.size + 1 + 1 + 1, 1, none⟩ (.string (p.f1 ++ ((⟨#[46]⟩ : ByteArray) ++ q2.f1)))).drew) from Kept.trans UK.out kx (fun j hj q => by omega))
    have xg1 : ((w5.setCell ⟨w.heap.size + 1 + 1 + 1, 1, none⟩ (.string (p.f1 ++ ((⟨#[46]⟩ : ByteArray) ++ q2.f1)))).drew).cell? ⟨g, 1, none⟩ = some (.slice (some ⟨T5, off5, none⟩) (r2.length + 1) c5) := (kx.cell (p := ⟨g, 1, none⟩) hgw5 (by show ¬ g = _; omega)).trans g51
    have xz1 : ((w5.setCell ⟨w.heap.size + 1 + 1 + 1, 1, none⟩ (.string (p.f1 ++ ((⟨#[46]⟩ : ByteArray) ++ q2.f1)))).drew).frozen? ⟨g, 1, none⟩ = false := (kx.froz (p := ⟨g, 1, none⟩) hgw5 (by show ¬ g = _; omega)).trans gz51
    have hxs : w.heap.size + 1 + 1 + 1 < ((w5.setCell ⟨w.heap.size + 1 + 1 + 1, 1, none⟩ (.string (p.f1 ++ ((⟨#[46]⟩ : ByteArray) ++ q2.f1)))).drew).heap.size := Nat.lt_of_lt_of_le hu4 kx.size
    have hxg : g < ((w5.setCell ⟨w.heap.size + 1 + 1 + 1, 1, none⟩ (.string (p.f1 ++ ((⟨#[46]⟩ : ByteArray) ++ q2.f1)))).drew).heap.size := Nat.lt_of_lt_of_le hgw5 kx.size
    clear u0 v1 v4 f1 f4 hLx5 hT5 UL5 UK U0 U1 U4 y0 y1 y2 hC5 g50 g51 gz51 kx hu1 hu4 hgw5 hTl5 hc86 hc86' hc87 hc87' hcur5
    generalize (w5.setCell ⟨w.heap.size + 1 + 1 + 1, 1, none⟩ (.string (p.f1 ++ ((⟨#[46]⟩ : ByteArray) ++ q2.f1)))).drew = wx at X0 X1 X4 XT XL XK xg1 xz1 hxs hxg ⊢
    obtain ⟨A3, hvt3⟩ : ∃ A3 : Option Addr, A3 = (if c5 = 1 then some ⟨T5, off5, none⟩ else some ⟨T5, off5 + 3, none⟩) := ⟨_, rfl⟩
    have HVT3 := Aside0.mk hvt3
    clear hvt3
    go_wp2_with (fail)
    refine start_ (n := 9) (S := fun w' => w'.cell? ⟨w.heap.size, 0, none⟩ = some (.pointer (some ⟨g, 0, none⟩)) ∧ w'.cell? ⟨g, 1, none⟩ = some (.slice (some ⟨T5, off5, none⟩) (r2.length + 1) c5)) (ds := [8]) #[false, false, false, false, false, false, false, false, false] (by kernel_rfl) rfl rfl ⟨(blk_cell X0.out 0).trans rfl, xg1⟩ (fun hHeld => ?_)
    ((refine rtake (i := 0) (N := some 89) (v := ?_) (a' := ?_) rfl rfl (by kernel_rfl) (fun _ _ _ h => h) (Or.inl ⟨by rfl, ?_⟩) hHeld ?_ ?_); rotate_left; (· rintro w' ⟨s0, s1⟩; go_simp; with_reducible rfl); rotate_left; (· (simp only [Act.put, List.setIfInBounds_toArray, List.set_cons_zero, List.set_cons_succ, i64_w, i32_w]; rfl)))
    ((refine rtake (i := 1) (N := some 90) (v := ?_) (a' := ?_) rfl rfl (by kernel_rfl) (fun _ _ _ h => h) (Or.inl ⟨by rfl, ?_⟩) hHeld ?_ ?_); rotate_left; (· rintro w' ⟨s0, s1⟩; go_simp; with_reducible rfl); rotate_left; (· (simp only [Act.put, List.setIfInBounds_toArray, List.set_cons_zero, List.set_cons_succ, i64_w, i32_w]; rfl)))
    ((refine rpure (i := 2) (N := some 91) (v := ?_) (a' := ?_) rfl rfl (by kernel_rfl) (fun _ _ _ h => h) (Or.inl ⟨by rfl, ?_⟩) ?_ ?_); rotate_left; (· intro w'; go_simp; with_reducible rfl); rotate_left; (· (simp only [Act.put, List.setIfInBounds_toArray, List.set_cons_zero, List.set_cons_succ, i64_w, i32_w]; rfl)))
    ((refine rpure (i := 3) (N := some 92) (v := ?_) (a' := ?_) rfl rfl (by kernel_rfl) (fun _ _ _ h => h) (Or.inl ⟨by rfl, ?_⟩) ?_ ?_); rotate_left; (· intro w'; go_simp; with_reducible rfl); rotate_left; (· (simp only [Act.put, List.setIfInBounds_toArray, List.set_cons_zero, List.set_cons_succ, i64_w, i32_w]; rfl)))
    ((refine rtake (i := 4) (N := some 93) (v := ?_) (a' := ?_) rfl rfl (by kernel_rfl) (fun _ _ _ h => h) (Or.inl ⟨by rfl, ?_⟩) hHeld ?_ ?_); rotate_left; (· rintro w' ⟨s0, s1⟩; go_simp; with_reducible rfl); rotate_left; (· (simp only [Act.put, List.setIfInBounds_toArray, List.set_cons_zero, List.set_cons_succ, i64_w, i32_w]; rfl)))
    refine rpure (i := 5) (N := some 94) (v := .slice A3 r2.length (c5 - 1)) rfl rfl (by kernel_rfl) (fun _ _ _ h => h) (Or.inl ⟨by rfl, ?_⟩) rfl ?_
    · intro w'
      by_cases hc1 : c5 = 1
      · have hrl : r2.length = 0 := by omega
        rw [HVT3.out, if_pos hc1]
        go_simp
      · rw [HVT3.out, if_neg hc1]
        go_simp
        intro q
        exact absurd q (by omega)
    refine norm_ (by (simp only [Act.put, List.setIfInBounds_toArray, List.set_cons_zero, List.set_cons_succ, i64_w, i32_w]; rfl)) ?_
    ((refine rpure (i := 6) (N := some 95) (v := ?_) (a' := ?_) rfl rfl (by kernel_rfl) (fun _ _ _ h => h) (Or.inl ⟨by rfl, ?_⟩) ?_ ?_); rotate_left; (· intro w'; go_simp; with_reducible rfl); rotate_left; (· (simp only [Act.put, List.setIfInBounds_toArray, List.set_cons_zero, List.set_cons_succ, i64_w, i32_w]; rfl)))
    ((refine rpure (i := 7) (N := some 96) (v := ?_) (a' := ?_) rfl rfl (by kernel_rfl) (fun _ _ _ h => h) (Or.inl ⟨by rfl, ?_⟩) ?_ ?_); rotate_left; (· intro w'; go_simp; with_reducible rfl); rotate_left; (· (simp only [Act.put, List.setIfInBounds_toArray, List.set_cons_zero, List.set_cons_succ, i64_w, i32_w]; rfl)))
    refine rlast (i := 8) (N := none) rfl rfl (by kernel_rfl) (by decide) (fun K hK => ?_)
    rw [if_pos (by rfl)]
    unfold Oper.wp
    have xz1' : wx.drew.frozen? ⟨g, 1, none⟩ = false := xz1
    go_simp
    refine hK _ _ (done_ (by kernel_rfl) ?_)
    clear hK K
    have Y1 := Aside0.mk (show ((wx.setCell ⟨g, 1, none⟩ (.slice A3 r2.length (c5 - 1))).drew).heap[w.heap.size + 1]? = some (.cells #[.int .i64 0, .string ⟨#[]⟩, .int .i64 0] 87 (0, 0)) from blk_setO X1.out (by omega))
    have Y4 := Aside0.mk (show ((wx.setCell ⟨g, 1, none⟩ (.slice A3 r2.length (c5 - 1))).drew).heap[w.heap.size + 1 + 1 + 1]? = some (.cells #[.int .i64 0, .string (p.f1 ++ ((⟨#[46]⟩ : ByteArray) ++ q2.f1)), .int .i64 p.f2] 87 (0, 0)) from blk_setO X4.out (by omega))
    have YL := Aside0.mk (show LxT g ((wx.setCell ⟨g, 1, none⟩ (.slice A3 r2.length (c5 - 1))).drew) s r2 from (LxT.pass XL.out XT.out xg1 hc5 (by rw [HVT3.out])).kept (Kept.refl (fun _ => False) _).drew (fun q => q) (fun _ _ _ q => q))
    have YK := Aside0.mk (show Kept (fun k => k = g) w ((wx.setCell ⟨g, 1, none⟩ (.slice A3 r2.length (c5 - 1))).drew) from (XK.out.setCell g 1 _ (Or.inl rfl)).drew)
    clear xg1 xz1 xz1' hHeld XL XK XT X0 X1 X4
    generalize (wx.setCell ⟨g, 1, none⟩ (.slice A3 r2.length (c5 - 1))).drew = wy at Y1 Y4 YL YK ⊢
    have v1 := fun i => blk_cell Y1.out i
    have v4 := fun i => blk_cell Y4.out i
    have f1 := fun i => blk_frozen Y1.out i
    have hy1 : w.heap.size + 1 < wy.heap.size := blk_lt Y1.out
    go_wp2_with (fail)
    ((try simp only [Exit.inBlock, Exit.then]); refine bodyPost_ret (by simp [results, Tryd.results40, go_sem, *]; try rfl) rfl ?_)
    rw [HN.out]
    have k6 : Kept (fun j => j = w.heap.size + 1 ∨ j = w.heap.size + 1) wy (((wy.setCell ⟨w.heap.size + 1, 0, none⟩ (.int .i64 0)).setCell ⟨w.heap.size + 1, 1, none⟩ (.string (p.f1 ++ ((⟨#[46]⟩ : ByteArray) ++ q2.f1)))).setCell ⟨w.heap.size + 1, 2, none⟩ (.int .i64 p.f2)) := by
      repeat' (first | exact Kept.refl _ _ | (refine Kept.setCell ?_ _ _ _ (Or.inl (Or.inl rfl))))
    exact ⟨rfl, lx_set2 YL.out Y1.out Y1.out (by omega) (by omega) k6, Kept.trans YK.out k6 (fun j hj q => by rcases q with q | q <;> omega)⟩
set_option maxHeartbeats 2000000 in
set_option maxRecDepth 100000 in
theorem tok_name (g T : Nat) (w : World) (s : ByteArray) (p : Pt) (r : List Pt) (hL : Lx g T w s (p :: r)) (hTb : ∃ cur, w.heap[T]? = some (.cells cur 109 (0, 0))) (hpi : PartIn s p) (hpr : ∀ q ∈ r, PartIn s q) (hs : s.size ≤ 40000) (hll : r.length ≤ 100000) (c0 : ¬ p.f1 = sQuote) (c1 : ¬ p.f0 = 1) (C2 : Aside0 (p.f0 = 2)) : Calls Tryd.prog 40 #[.pointer (some ⟨g, 0, none⟩)] w (TokPost g w s (.ok ⟨1, lowS (nameL p.f2 p.f1 r).1, p.f2⟩ (nameL p.f2 p.f1 r).2)) := by
  have hg := hL.lt
  have hg1 : ∀ k, g < w.heap.size + k := fun k => by omega
  have hmf := makeFunc_run
  obtain ⟨off, c, h0, h1, z1, hc, hTg, hTl, x0, x1, x2, hC⟩ := hL.cells
  have hT1 : ∀ k, T < w.heap.size + k := fun k => by omega
  have hT2 : T < w.heap.size + 1 + 1 := by omega
  have hg2 : g < w.heap.size + 1 + 1 := by omega
  have hT3 : T < w.heap.size + 1 + 1 + 1 := by omega
  have hg3 : g < w.heap.size + 1 + 1 + 1 := by omega
  have hn0 : (0 : Int) < (r.length : Int) + 1 := by omega
  have hr0 : ((r.length : Int) + 1 = 0) = False := eq_false (by omega)
  have HL := Aside0.mk hL
  have HTB := Aside0.mk hTb
  have HS := Aside0.mk hs
  have HPI := Aside0.mk hpi
  have HPR := Aside0.mk hpr
  have HLL := Aside0.mk hll
  clear hL hTb hs hpi hpr hll hC
  go_enter Tryd.func40, Tryd.ntmps40
  go_wp2_with (fail)
  have W0 := Aside0.mk (show (((w.alloc (.cells #[.pointer (some ⟨g, 0, none⟩)] 79)).alloc (.cells #[.int .i64 0, .string ⟨#[]⟩, .int .i64 0] 87)).alloc (.cells #[.int .i64 p.f0, .string p.f1, .int .i64 p.f2] 109)).heap[w.heap.size]? = some (.cells #[.pointer (some ⟨g, 0, none⟩)] 79 (0, 0)) from blk_alloc (blk_alloc (heap_alloc_new w (.cells #[.pointer (some ⟨g, 0, none⟩)] 79)) (.cells #[.int .i64 0, .string ⟨#[]⟩, .int .i64 0] 87)) (.cells #[.int .i64 p.f0, .string p.f1, .int .i64 p.f2] 109))
  have W1 := Aside0.mk (show (((w.alloc (.cells #[.pointer (some ⟨g, 0, none⟩)] 79)).alloc (.cells #[.int .i64 0, .string ⟨#[]⟩, .int .i64 0] 87)).alloc (.cells #[.int .i64 p.f0, .string p.f1, .int .i64 p.f2] 109)).heap[w.heap.size + 1]? = some (.cells #[.int .i64 0, .string ⟨#[]⟩, .int .i64 0] 87 (0, 0)) from by rw [← World.size_alloc w (.cells #[.pointer (some ⟨g, 0, none⟩)] 79)]; exact blk_alloc (heap_alloc_new (w.alloc (.cells #[.pointer (some ⟨g, 0, none⟩)] 79)) (.cells #[.int .i64 0, .string ⟨#[]⟩, .int .i64 0] 87)) (.cells #[.int .i64 p.f0, .string p.f1, .int .i64 p.f2] 109))
  have W2 := Aside0.mk (show (((w.alloc (.cells #[.pointer (some ⟨g, 0, none⟩)] 79)).alloc (.cells #[.int .i64 0, .string ⟨#[]⟩, .int .i64 0] 87)).alloc (.cells #[.int .i64 p.f0, .string p.f1, .int .i64 p.f2] 109)).heap[w.heap.size + 1 + 1]? = some (.cells #[.int .i64 p.f0, .string p.f1, .int .i64 p.f2] 109 (0, 0)) from by rw [← World.size_alloc w (.cells #[.pointer (some ⟨g, 0, none⟩)] 79), ← World.size_alloc (w.alloc (.cells #[.pointer (some ⟨g, 0, none⟩)] 79)) (.cells #[.int .i64 0, .string ⟨#[]⟩, .int .i64 0] 87)]; exact heap_alloc_new _ _)
  have WL := Aside0.mk (show Lx g T (((w.alloc (.cells #[.pointer (some ⟨g, 0, none⟩)] 79)).alloc (.cells #[.int .i64 0, .string ⟨#[]⟩, .int .i64 0] 87)).alloc (.cells #[.int .i64 p.f0, .string p.f1, .int .i64 p.f2] 109)) s (p :: r) from ((HL.out.alloc _).alloc _).alloc _)
  have WK := Aside0.mk (show Kept (fun k => k = g) w (((w.alloc (.cells #[.pointer (some ⟨g, 0, none⟩)] 79)).alloc (.cells #[.int .i64 0, .string ⟨#[]⟩, .int .i64 0] 87)).alloc (.cells #[.int .i64 p.f0, .string p.f1, .int .i64 p.f2] 109)) from (((Kept.refl _ w).alloc _).alloc _).alloc _)
  have WT := Aside0.mk (show ∃ cur, (((w.alloc (.cells #[.pointer (some ⟨g, 0, none⟩)] 79)).alloc (.cells #[.int .i64 0, .string ⟨#[]⟩, .int .i64 0] 87)).alloc (.cells #[.int .i64 p.f0, .string p.f1, .int .i64 p.f2] 109)).heap[T]? = some (.cells cur 109 (0, 0)) from by
    obtain ⟨cur, hcur⟩ := HTB.out
    exact ⟨cur, blk_alloc (blk_alloc (blk_alloc hcur _) _) _⟩)
  have hws : (((w.alloc (.cells #[.pointer (some ⟨g, 0, none⟩)] 79)).alloc (.cells #[.int .i64 0, .string ⟨#[]⟩, .int .i64 0] 87)).alloc (.cells #[.int .i64 p.f0, .string p.f1, .int .i64 p.f2] 109)).heap.size = w.heap.size + 1 + 1 + 1 := by simp
  have wg1 : (((w.alloc (.cells #[.pointer (some ⟨g, 0, none⟩)] 79)).alloc (.cells #[.int .i64 0, .string ⟨#[]⟩, .int .i64 0] 87)).alloc (.cells #[.int .i64 p.f0, .string p.f1, .int .i64 p.f2] 109)).cell? ⟨g, 1, none⟩ = some (.slice (some ⟨T, off, none⟩) (r.length + 1) c) := (blk_cell_old h1 hg _ _ _)
  have wz1 := blk_frozen (blk_alloc (blk_alloc (blk_alloc (blk_of_lx HL.out).choose_spec.choose_spec (.cells #[.pointer (some ⟨g, 0, none⟩)] 79)) (.cells #[.int .i64 0, .string ⟨#[]⟩, .int .i64 0] 87)) (.cells #[.int .i64 p.f0, .string p.f1, .int .i64 p.f2] 109)) 1
  clear h0 h1 z1 x0 x1 x2 HL HTB
  generalize hW : (((w.alloc (.cells #[.pointer (some ⟨g, 0, none⟩)] 79)).alloc (.cells #[.int .i64 0, .string ⟨#[]⟩, .int .i64 0] 87)).alloc (.cells #[.int .i64 p.f0, .string p.f1, .int .i64 p.f2] 109)) = ws at W0 W1 W2 WL WK WT hws wg1 wz1 ⊢
  clear hW
  obtain ⟨A2, hvt⟩ : ∃ A2 : Option Addr, A2 = (if c = 1 then some ⟨T, off, none⟩ else some ⟨T, off + 3, none⟩) := ⟨_, rfl⟩
  have HVT := Aside0.mk hvt
  clear hvt
  refine start_ (n := 9) (S := fun w' => w'.cell? ⟨w.heap.size, 0, none⟩ = some (.pointer (some ⟨g, 0, none⟩)) ∧ w'.cell? ⟨g, 1, none⟩ = some (.slice (some ⟨T, off, none⟩) (r.length + 1) c)) (ds := [8]) #[false, false, false, false, false, false, false, false, false] (by kernel_rfl) rfl rfl ⟨(blk_cell W0.out 0).trans rfl, wg1⟩ (fun hHeld => ?_)
  ((refine rtake (i := 0) (N := some 19) (v := ?_) (a' := ?_) rfl rfl (by kernel_rfl) (fun _ _ _ h => h) (Or.inl ⟨by rfl, ?_⟩) hHeld ?_ ?_); rotate_left; (· rintro w' ⟨s0, s1⟩; go_simp; with_reducible rfl); rotate_left; (· (simp only [Act.put, List.setIfInBounds_toArray, List.set_cons_zero, List.set_cons_succ, i64_w, i32_w]; rfl)))
  ((refine rtake (i := 1) (N := some 20) (v := ?_) (a' := ?_) rfl rfl (by kernel_rfl) (fun _ _ _ h => h) (Or.inl ⟨by rfl, ?_⟩) hHeld ?_ ?_); rotate_left; (· rintro w' ⟨s0, s1⟩; go_simp; with_reducible rfl); rotate_left; (· (simp only [Act.put, List.setIfInBounds_toArray, List.set_cons_zero, List.set_cons_succ, i64_w, i32_w]; rfl)))
  ((refine rpure (i := 2) (N := some 21) (v := ?_) (a' := ?_) rfl rfl (by kernel_rfl) (fun _ _ _ h => h) (Or.inl ⟨by rfl, ?_⟩) ?_ ?_); rotate_left; (· intro w'; go_simp; with_reducible rfl); rotate_left; (· (simp only [Act.put, List.setIfInBounds_toArray, List.set_cons_zero, List.set_cons_succ, i64_w, i32_w]; rfl)))
  ((refine rpure (i := 3) (N := some 22) (v := ?_) (a' := ?_) rfl rfl (by kernel_rfl) (fun _ _ _ h => h) (Or.inl ⟨by rfl, ?_⟩) ?_ ?_); rotate_left; (· intro w'; go_simp; with_reducible rfl); rotate_left; (· (simp only [Act.put, List.setIfInBounds_toArray, List.set_cons_zero, List.set_cons_succ, i64_w, i32_w]; rfl)))
  ((refine rtake (i := 4) (N := some 23) (v := ?_) (a' := ?_) rfl rfl (by kernel_rfl) (fun _ _ _ h => h) (Or.inl ⟨by rfl, ?_⟩) hHeld ?_ ?_); rotate_left; (· rintro w' ⟨s0, s1⟩; go_simp; with_reducible rfl); rotate_left; (· (simp only [Act.put, List.setIfInBounds_toArray, List.set_cons_zero, List.set_cons_succ, i64_w, i32_w]; rfl)))
  refine rpure (i := 5) (N := some 24) (v := .slice A2 r.length (c - 1)) rfl rfl (by kernel_rfl) (fun _ _ _ h => h) (Or.inl ⟨by rfl, ?_⟩) rfl ?_
  · intro w'
    by_cases hc1 : c = 1
    · have hrl : r.length = 0 := by omega
      rw [HVT.out, if_pos hc1]
      go_simp
    · rw [HVT.out, if_neg hc1]
      go_simp
      intro q
      exact absurd q (by omega)
  refine norm_ (by (simp only [Act.put, List.setIfInBounds_toArray, List.set_cons_zero, List.set_cons_succ, i64_w, i32_w]; rfl)) ?_
  ((refine rpure (i := 6) (N := some 25) (v := ?_) (a' := ?_) rfl rfl (by kernel_rfl) (fun _ _ _ h => h) (Or.inl ⟨by rfl, ?_⟩) ?_ ?_); rotate_left; (· intro w'; go_simp; with_reducible rfl); rotate_left; (· (simp only [Act.put, List.setIfInBounds_toArray, List.set_cons_zero, List.set_cons_succ, i64_w, i32_w]; rfl)))
  ((refine rpure (i := 7) (N := some 26) (v := ?_) (a' := ?_) rfl rfl (by kernel_rfl) (fun _ _ _ h => h) (Or.inl ⟨by rfl, ?_⟩) ?_ ?_); rotate_left; (· intro w'; go_simp; with_reducible rfl); rotate_left; (· (simp only [Act.put, List.setIfInBounds_toArray, List.set_cons_zero, List.set_cons_succ, i64_w, i32_w]; rfl)))
  refine rlast (i := 8) (N := none) rfl rfl (by kernel_rfl) (by decide) (fun K hK => ?_)
  rw [if_pos (by rfl)]
  unfold Oper.wp
  have wz1' : ws.drew.frozen? ⟨g, 1, none⟩ = false := wz1
  go_simp
  refine hK _ _ (done_ (by kernel_rfl) ?_)
  clear hK K
  have V0 := Aside0.mk (show ((ws.setCell ⟨g, 1, none⟩ (.slice A2 r.length (c - 1))).drew).heap[w.heap.size]? = some (.cells #[.pointer (some ⟨g, 0, none⟩)] 79 (0, 0)) from blk_setO (show ws.drew.heap[w.heap.size]? = _ from W0.out) (by omega))
  have V1 := Aside0.mk (show ((ws.setCell ⟨g, 1, none⟩ (.slice A2 r.length (c - 1))).drew).heap[w.heap.size + 1]? = some (.cells #[.int .i64 0, .string ⟨#[]⟩, .int .i64 0] 87 (0, 0)) from blk_setO (show ws.drew.heap[w.heap.size + 1]? = _ from W1.out) (by omega))
  have V2 := Aside0.mk (show ((ws.setCell ⟨g, 1, none⟩ (.slice A2 r.length (c - 1))).drew).heap[w.heap.size + 1 + 1]? = some (.cells #[.int .i64 p.f0, .string p.f1, .int .i64 p.f2] 109 (0, 0)) from blk_setO (show ws.drew.heap[w.heap.size + 1 + 1]? = _ from W2.out) (by omega))
  have VL := Aside0.mk (show LxT g ((ws.setCell ⟨g, 1, none⟩ (.slice A2 r.length (c - 1))).drew) s r from LxT.pass WL.out.drew WT.out wg1 hc (by rw [HVT.out]))
  have VK := Aside0.mk (show Kept (fun k => k = g) w ((ws.setCell ⟨g, 1, none⟩ (.slice A2 r.length (c - 1))).drew) from (WK.out.drew).setCell g 1 (.slice A2 r.length (c - 1)) (Or.inl rfl))
  have hvs : ((ws.setCell ⟨g, 1, none⟩ (.slice A2 r.length (c - 1))).drew).heap.size = w.heap.size + 1 + 1 + 1 := by show (ws.setCell ⟨g, 1, none⟩ (.slice A2 r.length (c - 1))).heap.size = _; rw [World.size_setCell]; exact hws
  clear W0 W1 W2 WL WK WT hws wg1 wz1 wz1' hHeld HVT hT1 hT2 hT3 hTl hTg hc hn0 hr0
  generalize (ws.setCell ⟨g, 1, none⟩ (.slice A2 r.length (c - 1))).drew = wv at V0 V1 V2 VL VK hvs ⊢
  have v0 := blk_cell V0.out 0
  have v1 := fun i => blk_cell V1.out i
  have v2 := fun i => blk_cell V2.out i
  have fz1 := fun i => blk_frozen V1.out i
  have hv0 : w.heap.size < wv.heap.size := by omega
  have hv1 : w.heap.size + 1 < wv.heap.size := by omega
  have hv2 : w.heap.size + 1 + 1 < wv.heap.size := by omega
  have hvg : g < wv.heap.size := by omega
  have hv0' : ∀ k, w.heap.size < wv.heap.size + k := fun k => by omega
  have hv1' : ∀ k, w.heap.size + 1 < wv.heap.size + k := fun k => by omega
  have hv2' : ∀ k, w.heap.size + 1 + 1 < wv.heap.size + k := fun k => by omega
  unfold sQuote at c0
  obtain ⟨c0a, c0b⟩ := ne_lit c0
  have c1f := eq_false c1
  have c2 := C2.out
  obtain ⟨e1, e2⟩ := wrap_end HPI.out.1 HPI.out.2 HS.out
  go_wp2_with (fail)
  have hf24 : ∀ args w, (callFunc 54 args).run Tryd.prog w = .ok (.enter 54 args) w := enters_of Tryd.func54 (by kernel_rfl) rfl
  have HTK := Aside0.mk (fun (W : World) (l : List Pt) (pos : Int) (hL : LxT g W s l) => ltake_any 54 hf24 #[] g W s l pos plainB hL (fun q r' hq _ => plain_calls' q W))
  have TL := Aside0.mk (VL.out.below (below_alloc (Below.refl _ _) (.cells #[.int .i64 1, .string p.f1, .int .i64 p.f2] 87)))
  clear hf24
  refine (HTK.out _ r (p.f2 + p.f1.size) TL.out).mono ?_
  rintro e w5 ⟨rfl, hL5, hK5⟩
  have HI := Aside0.mk (show NameInv g s p r w r.length (.string (takeR (p.f2 + p.f1.size) plainB r).1) (.bool (takeR (p.f2 + p.f1.size) plainB r).2.1) w5 from
    ⟨p.f1, r, rfl, rfl, rfl, hL5, hK5.blk (by rw [← hvs]; exact heap_alloc_new wv _) (by omega), hK5.blk (blk_alloc V1.out _) (by omega), hK5.blk (blk_alloc V0.out _) (by omega), Kept.trans (VK.out.alloc _) hK5 (fun _ _ q => q), HPR.out, HPI.out.2, Nat.le_refl _⟩)
  clear v0 v1 v2 fz1 hL5 hK5 VL VK V0 V1 V2 TL e1 e2
  go_wp2_with (fail)
  go_loopg [8, 9] r.length (fun kq v8 v9 w' => Aside0 (NameInv g s p r w kq v8 v9 w'))
  case atStart => exact HI
  case round =>
    obtain ⟨tx, l, hnm, rfl, rfl, hLl, h4, h1, h0, hK, hin, hend, hlen⟩ := hrel.out
    have U0 := Aside0.mk h0
    have U1 := Aside0.mk h1
    have U4 := Aside0.mk h4
    have UL := Aside0.mk hLl
    have UK := Aside0.mk hK
    have UI := Aside0.mk hin
    have UN := Aside0.mk hnm
    have u0 := blk_cell h0 0
    have v1 := fun i => blk_cell h1 i
    have v4 := fun i => blk_cell h4 i
    have f1 := fun i => blk_frozen h1 i
    have f4 := fun i => blk_frozen h4 i
    have hu0 : w.heap.size < wr.heap.size := blk_lt h0
    have hu1 : w.heap.size + 1 < wr.heap.size := blk_lt h1
    have hu4 : w.heap.size + 1 + 1 + 1 < wr.heap.size := blk_lt h4
    have UE := Aside0.mk hend
    have UZ := Aside0.mk hlen
    clear h0 h1 h4 hLl hK hin hnm hrel HI hend hlen
    cases hok : (takeR (p.f2 + tx.size) plainB l).2.1 with
    | false =>
      obtain ⟨n1, n2⟩ := name_no hok
      have N1 := Aside0.mk n1
      have N2 := Aside0.mk n2
      clear n1 n2
      have htz : tx.size ≤ 40000 := by have h1 := UE.out; have h2 := HPI.out.1; have h3 := HS.out; omega
      have HTZ := Aside0.mk htz
      clear htz
      go_wp2_with (fail)
      refine (lower_calls tx wr HTZ.out).mono ?_
      rintro e w6 ⟨rfl, hb⟩
      have Y1 := Aside0.mk (blk_below U1.out hb)
      have Y4 := Aside0.mk (blk_below U4.out hb)
      have YL := Aside0.mk (UL.out.below hb)
      have YK := Aside0.mk (UK.out.below hb)
      clear u0 v1 v4 f1 f4 U0 U1 U4 UL UK hb
      have v1 := fun i => blk_cell Y1.out i
      have v4 := fun i => blk_cell Y4.out i
      have f1 := fun i => blk_frozen Y1.out i
      have f4 := fun i => blk_frozen Y4.out i
      have hy1 : w.heap.size + 1 < w6.heap.size := blk_lt Y1.out
      have hy4 : w.heap.size + 1 + 1 + 1 < w6.heap.size := blk_lt Y4.out
      go_wp2_with (fail)
      ((try simp only [Exit.inBlock, Exit.then]); refine bodyPost_ret (by simp [results, Tryd.results40, go_sem, *]; try rfl) rfl ?_)
      have hfin := UN.out
      rw [N1.out] at hfin
      rw [← hfin]
      have k6 : Kept (fun j => j = w.heap.size + 1 ∨ j = w.heap.size + 1 + 1 + 1) w6 ((((w6.setCell ⟨w.heap.size + 1 + 1 + 1, 1, none⟩ (.string (lowS tx))).setCell ⟨w.heap.size + 1, 0, none⟩ (.int .i64 1)).setCell ⟨w.heap.size + 1, 1, none⟩ (.string (lowS tx))).setCell ⟨w.heap.size + 1, 2, none⟩ (.int .i64 p.f2)) := by
        repeat' (first | exact Kept.refl _ _ | (refine Kept.setCell ?_ _ _ _ (Or.inl (Or.inl rfl))) | (refine Kept.setCell ?_ _ _ _ (Or.inl (Or.inr rfl))))
      refine ⟨rfl, ?_, Kept.trans YK.out k6 (fun j hj q => by rcases q with q | q <;> omega)⟩
      have yl := YL.out
      rw [N2.out] at yl
      exact lx_set2 yl Y1.out Y4.out (by omega) (by omega) k6
    | true =>
      obtain ⟨q, r', hlq, htk, hnq, hqp⟩ := name_yes hok
      subst hlq
      have hul := UL.out
      rw [htk] at hul
      have UL2 := Aside0.mk hul
      have NQ := Aside0.mk (hnq.symm.trans UN.out)
      have HQP := Aside0.mk hqp
      obtain ⟨ew1, ew2, ew3⟩ := wrap_end2 HPI.out.1 (end_cat (UI.out q (by simp)) hqp) HS.out
      rw [htk]
      clear hul hqp hnq hok htk UL UN
      obtain ⟨gk, rfl⟩ : ∃ j, gk = j + 1 := ⟨gk - 1, by have := UZ.out; simp at this; omega⟩
      have HE := Aside0.mk (size_cat tx q.f1 p.f2)
      go_wp2_with (fail)
      have kx : Kept (fun j => j = w.heap.size + 1 + 1 + 1) wr (wr.setCell ⟨w.heap.size + 1 + 1 + 1, 1, none⟩ (.string (tx ++ q.f1))) := (Kept.refl (fun j => j = w.heap.size + 1 + 1 + 1) wr).setCell (w.heap.size + 1 + 1 + 1) 1 _ (Or.inl rfl)
      have Y0 := Aside0.mk (kx.blk U0.out (by omega))
      have Y1 := Aside0.mk (kx.blk U1.out (by omega))
      have Y4 := Aside0.mk (show (wr.setCell ⟨w.heap.size + 1 + 1 + 1, 1, none⟩ (.string (tx ++ q.f1))).heap[w.heap.size + 1 + 1 + 1]? = some (.cells #[.int .i64 1, .string (tx ++ q.f1), .int .i64 p.f2] 87 (0, 0)) from blk_set U4.out 1 _)
      have YL := Aside0.mk (lx_set1 UL2.out U4.out (by omega) kx)
      have YK := Aside0.mk (Kept.trans UK.out kx (fun j hj q => by omega))
      clear u0 v1 v4 f1 f4 U0 U1 U4 UL2 UK kx hu0 hu1 hu4
      rw [HE.out]
      generalize wr.setCell ⟨w.heap.size + 1 + 1 + 1, 1, none⟩ (.string (tx ++ q.f1)) = w6 at Y0 Y1 Y4 YL YK ⊢
      refine (HTK.out w6 r' (p.f2 + ((tx ++ q.f1).size : Int)) YL.out).mono ?_
      rintro e w7 ⟨rfl, hL7, hK7⟩
      have HL7 := Aside0.mk hL7
      have HK7 := Aside0.mk hK7
      have HRES := Aside0.mk (name_next NQ.out UI.out HQP.out UZ.out Y4.out Y1.out Y0.out YK.out hg hL7 hK7)
      clear hL7 hK7 HE ew1 ew2 ew3
      generalize (takeR (p.f2 + ((tx ++ q.f1).size : Int)) plainB r').1 = x1 at HRES ⊢
      generalize (takeR (p.f2 + ((tx ++ q.f1).size : Int)) plainB r').2.1 = x2 at HRES ⊢
      go_wp2_with (fail)
      go_roundg gk
      case measure => omega
      case rel => exact HRES
def quoR (p : Pt) (r : List Pt) (q : Option (List UInt8 × Nat)) : TRes :=
  match q with
  | none => .bad 30 p.f2
  | some (t, k) => .ok ⟨2, ⟨t.toArray⟩, p.f2⟩ (behind k r)
set_option maxHeartbeats 2000000 in
set_option maxRecDepth 100000 in
theorem tok_quote (g T : Nat) (w : World) (s : ByteArray) (p : Pt) (r : List Pt) (hL : Lx g T w s (p :: r)) (hTb : ∃ cur, w.heap[T]? = some (.cells cur 109 (0, 0))) (hpi : PartIn s p) (hpr : ∀ q ∈ r, PartIn s q) (hs : s.size ≤ 40000) (hll : r.length ≤ 100000) (C0 : Aside0 (p.f1 = sQuote)) (f : Nat) (q : Option (List UInt8 × Nat)) (hq : quoteL s f [] (p.f2.toNat + 1) = some q) : Calls Tryd.prog 40 #[.pointer (some ⟨g, 0, none⟩)] w (TokPost g w s (quoR p r q)) := by
  have hg := hL.lt
  have hg1 : ∀ k, g < w.heap.size + k := fun k => by omega
  have hmf := makeFunc_run
  obtain ⟨off, c, h0, h1, z1, hc, hTg, hTl, x0, x1, x2, hC⟩ := hL.cells
  have hT1 : ∀ k, T < w.heap.size + k := fun k => by omega
  have hT2 : T < w.heap.size + 1 + 1 := by omega
  have hg2 : g < w.heap.size + 1 + 1 := by omega
  have hT3 : T < w.heap.size + 1 + 1 + 1 := by omega
  have hg3 : g < w.heap.size + 1 + 1 + 1 := by omega
  have hn0 : (0 : Int) < (r.length : Int) + 1 := by omega
  have hr0 : ((r.length : Int) + 1 = 0) = False := eq_false (by omega)
  have HL := Aside0.mk hL
  have HTB := Aside0.mk hTb
  have HS := Aside0.mk hs
  have HPI := Aside0.mk hpi
  have HPR := Aside0.mk hpr
  have HLL := Aside0.mk hll
  clear hL hTb hs hpi hpr hll hC
  go_enter Tryd.func40, Tryd.ntmps40
  go_wp2_with (fail)
  have W0 := Aside0.mk (show (((w.alloc (.cells #[.pointer (some ⟨g, 0, none⟩)] 79)).alloc (.cells #[.int .i64 0, .string ⟨#[]⟩, .int .i64 0] 87)).alloc (.cells #[.int .i64 p.f0, .string p.f1, .int .i64 p.f2] 109)).heap[w.heap.size]? = some (.cells #[.pointer (some ⟨g, 0, none⟩)] 79 (0, 0)) from blk_alloc (blk_alloc (heap_alloc_new w (.cells #[.pointer (some ⟨g, 0, none⟩)] 79)) (.cells #[.int .i64 0, .string ⟨#[]⟩, .int .i64 0] 87)) (.cells #[.int .i64 p.f0, .string p.f1, .int .i64 p.f2] 109))
  have W1 := Aside0.mk (show (((w.alloc (.cells #[.pointer (some ⟨g, 0, none⟩)] 79)).alloc (.cells #[.int .i64 0, .string ⟨#[]⟩, .int .i64 0] 87)).alloc (.cells #[.int .i64 p.f0, .string p.f1, .int .i64 p.f2] 109)).heap[w.heap.size + 1]? = some (.cells #[.int .i64 0, .string ⟨#[]⟩, .int .i64 0] 87 (0, 0)) from by rw [← World.size_alloc w (.cells #[.pointer (some ⟨g, 0, none⟩)] 79)]; exact blk_alloc (heap_alloc_new (w.alloc (.cells #[.pointer (some ⟨g, 0, none⟩)] 79)) (.cells #[.int .i64 0, .string ⟨#[]⟩, .int .i64 0] 87)) (.cells #[.int .i64 p.f0, .string p.f1, .int .i64 p.f2] 109))
  have W2 := Aside0.mk (show (((w.alloc (.cells #[.pointer (some ⟨g, 0, none⟩)] 79)).alloc (.cells #[.int .i64 0, .string ⟨#[]⟩, .int .i64 0] 87)).alloc (.cells #[.int .i64 p.f0, .string p.f1, .int .i64 p.f2] 109)).heap[w.heap.size + 1 + 1]? = some (.cells #[.int .i64 p.f0, .string p.f1, .int .i64 p.f2] 109 (0, 0)) from by rw [← World.size_alloc w (.cells #[.pointer (some ⟨g, 0, none⟩)] 79), ← World.size_alloc (w.alloc (.cells #[.pointer (some ⟨g, 0, none⟩)] 79)) (.cells #[.int .i64 0, .string ⟨#[]⟩, .int .i64 0] 87)]; exact heap_alloc_new _ _)
  have WL := Aside0.mk (show Lx g T (((w.alloc (.cells #[.pointer (some ⟨g, 0, none⟩)] 79)).alloc (.cells #[.int .i64 0, .string ⟨#[]⟩, .int .i64 0] 87)).alloc (.cells #[.int .i64 p.f0, .string p.f1, .int .i64 p.f2] 109)) s (p :: r) from ((HL.out.alloc _).alloc _).alloc _)
  have WK := Aside0.mk (show Kept (fun k => k = g) w (((w.alloc (.cells #[.pointer (some ⟨g, 0, none⟩)] 79)).alloc (.cells #[.int .i64 0, .string ⟨#[]⟩, .int .i64 0] 87)).alloc (.cells #[.int .i64 p.f0, .string p.f1, .int .i64 p.f2] 109)) from (((Kept.refl _ w).alloc _).alloc _).alloc _)
  have WT := Aside0.mk (show ∃ cur, (((w.alloc (.cells #[.pointer (some ⟨g, 0, none⟩)] 79)).alloc (.cells #[.int .i64 0, .string ⟨#[]⟩, .int .i64 0] 87)).alloc (.cells #[.int .i64 p.f0, .string p.f1, .int .i64 p.f2] 109)).heap[T]? = some (.cells cur 109 (0, 0)) from by
    obtain ⟨cur, hcur⟩ := HTB.out
    exact ⟨cur, blk_alloc (blk_alloc (blk_alloc hcur _) _) _⟩)
  have hws : (((w.alloc (.cells #[.pointer (some ⟨g, 0, none⟩)] 79)).alloc (.cells #[.int .i64 0, .string ⟨#[]⟩, .int .i64 0] 87)).alloc (.cells #[.int .i64 p.f0, .string p.f1, .int .i64 p.f2] 109)).heap.size = w.heap.size + 1 + 1 + 1 := by simp
  have wg1 : (((w.alloc (.cells #[.pointer (some ⟨g, 0, none⟩)] 79)).alloc (.cells #[.int .i64 0, .string ⟨#[]⟩, .int .i64 0] 87)).alloc (.cells #[.int .i64 p.f0, .string p.f1, .int .i64 p.f2] 109)).cell? ⟨g, 1, none⟩ = some (.slice (some ⟨T, off, none⟩) (r.length + 1) c) := (blk_cell_old h1 hg _ _ _)
  have wz1 := blk_frozen (blk_alloc (blk_alloc (blk_alloc (blk_of_lx HL.out).choose_spec.choose_spec (.cells #[.pointer (some ⟨g, 0, none⟩)] 79)) (.cells #[.int .i64 0, .string ⟨#[]⟩, .int .i64 0] 87)) (.cells #[.int .i64 p.f0, .string p.f1, .int .i64 p.f2] 109)) 1
  clear h0 h1 z1 x0 x1 x2 HL HTB
  generalize hW : (((w.alloc (.cells #[.pointer (some ⟨g, 0, none⟩)] 79)).alloc (.cells #[.int .i64 0, .string ⟨#[]⟩, .int .i64 0] 87)).alloc (.cells #[.int .i64 p.f0, .string p.f1, .int .i64 p.f2] 109)) = ws at W0 W1 W2 WL WK WT hws wg1 wz1 ⊢
  clear hW
  obtain ⟨A2, hvt⟩ : ∃ A2 : Option Addr, A2 = (if c = 1 then some ⟨T, off, none⟩ else some ⟨T, off + 3, none⟩) := ⟨_, rfl⟩
  have HVT := Aside0.mk hvt
  clear hvt
  refine start_ (n := 9) (S := fun w' => w'.cell? ⟨w.heap.size, 0, none⟩ = some (.pointer (some ⟨g, 0, none⟩)) ∧ w'.cell? ⟨g, 1, none⟩ = some (.slice (some ⟨T, off, none⟩) (r.length + 1) c)) (ds := [8]) #[false, false, false, false, false, false, false, false, false] (by kernel_rfl) rfl rfl ⟨(blk_cell W0.out 0).trans rfl, wg1⟩ (fun hHeld => ?_)
  ((refine rtake (i := 0) (N := some 19) (v := ?_) (a' := ?_) rfl rfl (by kernel_rfl) (fun _ _ _ h => h) (Or.inl ⟨by rfl, ?_⟩) hHeld ?_ ?_); rotate_left; (· rintro w' ⟨s0, s1⟩; go_simp; with_reducible rfl); rotate_left; (· (simp only [Act.put, List.setIfInBounds_toArray, List.set_cons_zero, List.set_cons_succ, i64_w, i32_w]; rfl)))
  ((refine rtake (i := 1) (N := some 20) (v := ?_) (a' := ?_) rfl rfl (by kernel_rfl) (fun _ _ _ h => h) (Or.inl ⟨by rfl, ?_⟩) hHeld ?_ ?_); rotate_left; (· rintro w' ⟨s0, s1⟩; go_simp; with_reducible rfl); rotate_left; (· (simp only [Act.put, List.setIfInBounds_toArray, List.set_cons_zero, List.set_cons_succ, i64_w, i32_w]; rfl)))
  ((refine rpure (i := 2) (N := some 21) (v := ?_) (a' := ?_) rfl rfl (by kernel_rfl) (fun _ _ _ h => h) (Or.inl ⟨by rfl, ?_⟩) ?_ ?_); rotate_left; (· intro w'; go_simp; with_reducible rfl); rotate_left; (· (simp only [Act.put, List.setIfInBounds_toArray, List.set_cons_zero, List.set_cons_succ, i64_w, i32_w]; rfl)))
  ((refine rpure (i := 3) (N := some 22) (v := ?_) (a' := ?_) rfl rfl (by kernel_rfl) (fun _ _ _ h => h) (Or.inl ⟨by rfl, ?_⟩) ?_ ?_); rotate_left; (· intro w'; go_simp; with_reducible rfl); rotate_left; (· (simp only [Act.put, List.setIfInBounds_toArray, List.set_cons_zero, List.set_cons_succ, i64_w, i32_w]; rfl)))
  ((refine rtake (i := 4) (N := some 23) (v := ?_) (a' := ?_) rfl rfl (by kernel_rfl) (fun _ _ _ h => h) (Or.inl ⟨by rfl, ?_⟩) hHeld ?_ ?_); rotate_left; (· rintro w' ⟨s0, s1⟩; go_simp; with_reducible rfl); rotate_left; (· (simp only [Act.put, List.setIfInBounds_toArray, List.set_cons_zero, List.set_cons_succ, i64_w, i32_w]; rfl)))
  refine rpure (i := 5) (N := some 24) (v := .slice A2 r.length (c - 1)) rfl rfl (by kernel_rfl) (fun _ _ _ h => h) (Or.inl ⟨by rfl, ?_⟩) rfl ?_
  · intro w'
    by_cases hc1 : c = 1
    · have hrl : r.length = 0 := by omega
      rw [HVT.out, if_pos hc1]
      go_simp
    · rw [HVT.out, if_neg hc1]
      go_simp
      intro q
      exact absurd q (by omega)
  refine norm_ (by (simp only [Act.put, List.setIfInBounds_toArray, List.set_cons_zero, List.set_cons_succ, i64_w, i32_w]; rfl)) ?_
  ((refine rpure (i := 6) (N := some 25) (v := ?_) (a' := ?_) rfl rfl (by kernel_rfl) (fun _ _ _ h => h) (Or.inl ⟨by rfl, ?_⟩) ?_ ?_); rotate_left; (· intro w'; go_simp; with_reducible rfl); rotate_left; (· (simp only [Act.put, List.setIfInBounds_toArray, List.set_cons_zero, List.set_cons_succ, i64_w, i32_w]; rfl)))
  ((refine rpure (i := 7) (N := some 26) (v := ?_) (a' := ?_) rfl rfl (by kernel_rfl) (fun _ _ _ h => h) (Or.inl ⟨by rfl, ?_⟩) ?_ ?_); rotate_left; (· intro w'; go_simp; with_reducible rfl); rotate_left; (· (simp only [Act.put, List.setIfInBounds_toArray, List.set_cons_zero, List.set_cons_succ, i64_w, i32_w]; rfl)))
  refine rlast (i := 8) (N := none) rfl rfl (by kernel_rfl) (by decide) (fun K hK => ?_)
  rw [if_pos (by rfl)]
  unfold Oper.wp
  have wz1' : ws.drew.frozen? ⟨g, 1, none⟩ = false := wz1
  go_simp
  refine hK _ _ (done_ (by kernel_rfl) ?_)
  clear hK K
  have V0 := Aside0.mk (show ((ws.setCell ⟨g, 1, none⟩ (.slice A2 r.length (c - 1))).drew).heap[w.heap.size]? = some (.cells #[.pointer (some ⟨g, 0, none⟩)] 79 (0, 0)) from blk_setO (show ws.drew.heap[w.heap.size]? = _ from W0.out) (by omega))
  have V1 := Aside0.mk (show ((ws.setCell ⟨g, 1, none⟩ (.slice A2 r.length (c - 1))).drew).heap[w.heap.size + 1]? = some (.cells #[.int .i64 0, .string ⟨#[]⟩, .int .i64 0] 87 (0, 0)) from blk_setO (show ws.drew.heap[w.heap.size + 1]? = _ from W1.out) (by omega))
  have V2 := Aside0.mk (show ((ws.setCell ⟨g, 1, none⟩ (.slice A2 r.length (c - 1))).drew).heap[w.heap.size + 1 + 1]? = some (.cells #[.int .i64 p.f0, .string p.f1, .int .i64 p.f2] 109 (0, 0)) from blk_setO (show ws.drew.heap[w.heap.size + 1 + 1]? = _ from W2.out) (by omega))
  have VL := Aside0.mk (show LxT g ((ws.setCell ⟨g, 1, none⟩ (.slice A2 r.length (c - 1))).drew) s r from LxT.pass WL.out.drew WT.out wg1 hc (by rw [HVT.out]))
  have VK := Aside0.mk (show Kept (fun k => k = g) w ((ws.setCell ⟨g, 1, none⟩ (.slice A2 r.length (c - 1))).drew) from (WK.out.drew).setCell g 1 (.slice A2 r.length (c - 1)) (Or.inl rfl))
  have hvs : ((ws.setCell ⟨g, 1, none⟩ (.slice A2 r.length (c - 1))).drew).heap.size = w.heap.size + 1 + 1 + 1 := by show (ws.setCell ⟨g, 1, none⟩ (.slice A2 r.length (c - 1))).heap.size = _; rw [World.size_setCell]; exact hws
  clear W0 W1 W2 WL WK WT hws wg1 wz1 wz1' hHeld HVT hT1 hT2 hT3 hTl hTg hc hn0 hr0
  generalize (ws.setCell ⟨g, 1, none⟩ (.slice A2 r.length (c - 1))).drew = wv at V0 V1 V2 VL VK hvs ⊢
  have v0 := blk_cell V0.out 0
  have v1 := fun i => blk_cell V1.out i
  have v2 := fun i => blk_cell V2.out i
  have fz1 := fun i => blk_frozen V1.out i
  have hv0 : w.heap.size < wv.heap.size := by omega
  have hv1 : w.heap.size + 1 < wv.heap.size := by omega
  have hv2 : w.heap.size + 1 + 1 < wv.heap.size := by omega
  have hvg : g < wv.heap.size := by omega
  have hv0' : ∀ k, w.heap.size < wv.heap.size + k := fun k => by omega
  have hv1' : ∀ k, w.heap.size + 1 < wv.heap.size + k := fun k => by omega
  have hv2' : ∀ k, w.heap.size + 1 + 1 < wv.heap.size + k := fun k => by omega
  have c0 := C0.out
  unfold sQuote at c0
  have HQ := Aside0.mk hq
  clear hq
  go_wp2_with (fail)
  have TL := Aside0.mk (VL.out.below (below_alloc (Below.refl _ _) (.cells #[.int .i64 3, .string ⟨#[39]⟩, .int .i64 p.f2] 87)))
  have T0 := Aside0.mk (blk_alloc V0.out (.cells #[.int .i64 3, .string ⟨#[39]⟩, .int .i64 p.f2] 87))
  have T1 := Aside0.mk (blk_alloc V1.out (.cells #[.int .i64 3, .string ⟨#[39]⟩, .int .i64 p.f2] 87))
  have T2 := Aside0.mk (blk_alloc V2.out (.cells #[.int .i64 3, .string ⟨#[39]⟩, .int .i64 p.f2] 87))
  have T4 := Aside0.mk (show (wv.alloc (.cells #[.int .i64 3, .string ⟨#[39]⟩, .int .i64 p.f2] 87)).heap[w.heap.size + 1 + 1 + 1]? = some (.cells #[.int .i64 3, .string ⟨#[39]⟩, .int .i64 p.f2] 87 (0, 0)) from by rw [← hvs]; exact heap_alloc_new wv _)
  have TK := Aside0.mk (VK.out.alloc (.cells #[.int .i64 3, .string ⟨#[39]⟩, .int .i64 p.f2] 87))
  have hts : wv.heap.size < (wv.alloc (.cells #[.int .i64 3, .string ⟨#[39]⟩, .int .i64 p.f2] 87)).heap.size := by simp
  clear v0 v1 v2 fz1
  generalize wv.alloc (.cells #[.int .i64 3, .string ⟨#[39]⟩, .int .i64 p.f2] 87) = wt at TL T0 T1 T2 T4 TK hts ⊢
  refine start_ (n := 8) (S := fun w' => w'.cell? ⟨w.heap.size, 0, none⟩ = some (.pointer (some ⟨g, 0, none⟩)) ∧ w'.cell? ⟨w.heap.size + 1 + 1, 2, none⟩ = some (.int .i64 p.f2)) (ds := [7]) #[false, false, false, false, false, false, false, false] (by kernel_rfl) rfl rfl ⟨(blk_cell T0.out 0).trans rfl, (blk_cell T2.out 2).trans rfl⟩ (fun hHeld => ?_)
  ((refine rtake (i := 0) (N := some 51) (v := ?_) (a' := ?_) rfl rfl (by kernel_rfl) (fun _ _ _ h => h) (Or.inl ⟨by rfl, ?_⟩) hHeld ?_ ?_); rotate_left; (· rintro w' ⟨s0, s1⟩; go_simp; with_reducible rfl); rotate_left; (· (simp only [Act.put, List.setIfInBounds_toArray, List.set_cons_zero, List.set_cons_succ, i64_w, i32_w]; rfl)))
  ((refine rpure (i := 1) (N := some 52) (v := ?_) (a' := ?_) rfl rfl (by kernel_rfl) (fun _ _ _ h => h) (Or.inl ⟨by rfl, ?_⟩) ?_ ?_); rotate_left; (· intro w'; go_simp; with_reducible rfl); rotate_left; (· (simp only [Act.put, List.setIfInBounds_toArray, List.set_cons_zero, List.set_cons_succ, i64_w, i32_w]; rfl)))
  ((refine rtake (i := 2) (N := some 53) (v := ?_) (a' := ?_) rfl rfl (by kernel_rfl) (fun _ _ _ h => h) (Or.inl ⟨by rfl, ?_⟩) hHeld ?_ ?_); rotate_left; (· rintro w' ⟨s0, s1⟩; go_simp; with_reducible rfl); rotate_left; (· (simp only [Act.put, List.setIfInBounds_toArray, List.set_cons_zero, List.set_cons_succ, i64_w, i32_w]; rfl)))
  ((refine rpure (i := 4) (N := some 55) (v := ?_) (a' := ?_) rfl rfl (by kernel_rfl) (fun _ _ _ h => h) (Or.inl ⟨by rfl, ?_⟩) ?_ ?_); rotate_left; (· intro w'; go_simp; with_reducible rfl); rotate_left; (· (simp only [Act.put, List.setIfInBounds_toArray, List.set_cons_zero, List.set_cons_succ, i64_w, i32_w]; rfl)))
  ((refine rtake (i := 5) (N := some 56) (v := ?_) (a' := ?_) rfl rfl (by kernel_rfl) (fun _ _ _ h => h) (Or.inl ⟨by rfl, ?_⟩) hHeld ?_ ?_); rotate_left; (· rintro w' ⟨s0, s1⟩; go_simp; with_reducible rfl); rotate_left; (· (simp only [Act.put, List.setIfInBounds_toArray, List.set_cons_zero, List.set_cons_succ, i64_w, i32_w]; rfl)))
  obtain ⟨T', hLx, hTb'⟩ := TL.out
  have hpn : ((p.f2.toNat : Nat) : Int) = p.f2 := by have := HPI.out.1; omega
  have hps : p.f2.toNat < s.size := by
    have h1 := HPI.out.2
    have h2 := HPI.out.1
    rw [c0] at h1
    have h3 : (⟨#[39]⟩ : ByteArray).size = 1 := rfl
    rw [h3] at h1
    omega
  have hqc := quoted_calls g T' wt.drew s r p.f2.toNat f q hLx.drew hps (Nat.le_trans HS.out (by decide)) (Nat.le_trans HLL.out (by decide)) HQ.out
  rw [hpn] at hqc
  refine rone (i := 3) (N := some 54) rfl rfl (by kernel_rfl) (by decide) (fun K hK => ?_)
  refine rcall 50 #[.pointer (some ⟨g, 0, none⟩), .int .i64 p.f2] (by rfl) rfl (by go_simp) ?_
  cases q with
  | none =>
    refine hqc.mono ?_
    rintro e w5 ⟨he, hk5⟩
    unfold Thrown at he
    subst he
    exact Or.inr ⟨_, rfl, rfl, rfl, Kept.trans TK.out.drew hk5 (fun _ _ q => q)⟩
  | some tk =>
    obtain ⟨tx, kx⟩ := tk
    refine hqc.mono ?_
    rintro e w5 ⟨rfl, hL5, hK5⟩
    have U1 := Aside0.mk (hK5.blk (show wt.drew.heap[w.heap.size + 1]? = _ from T1.out) (by omega))
    have U2 := Aside0.mk (hK5.blk (show wt.drew.heap[w.heap.size + 1 + 1]? = _ from T2.out) (by omega))
    have U0 := Aside0.mk (hK5.blk (show wt.drew.heap[w.heap.size]? = _ from T0.out) (by omega))
    have UL := Aside0.mk hL5
    have UK := Aside0.mk (Kept.trans TK.out.drew hK5 (fun _ _ q => q))
    clear hqc hL5 hK5 T0 T1 T2 T4 TK TL
    have f1 := fun i => blk_frozen U1.out i
    have v1 := fun i => blk_cell U1.out i
    have hu1 : w.heap.size + 1 < w5.heap.size := blk_lt U1.out
    refine Or.inl ⟨_, rfl, hK _ _ ⟨(blk_cell U0.out 0).trans rfl, (blk_cell U2.out 2).trans rfl⟩ (fun hHeld => ?_)⟩
    clear hK K
    refine norm_ (by (simp only [Act.put, List.setIfInBounds_toArray, List.set_cons_zero, List.set_cons_succ, i64_w, i32_w]; rfl)) ?_
    ((refine rpure (i := 6) (N := some 57) (v := ?_) (a' := ?_) rfl rfl (by kernel_rfl) (fun _ _ _ h => h) (Or.inl ⟨by rfl, ?_⟩) ?_ ?_); rotate_left; (· intro w'; go_simp; with_reducible rfl); rotate_left; (· (simp only [Act.put, List.setIfInBounds_toArray, List.set_cons_zero, List.set_cons_succ, i64_w, i32_w]; rfl)))
    refine rlast (i := 7) (N := none) rfl rfl (by kernel_rfl) (by decide) (fun K hK => ?_)
    rw [if_pos (by rfl)]
    unfold Oper.wp
    go_simp
    refine hK _ _ (done_ (by kernel_rfl) ?_)
    clear hK K
    have k6 : Kept (fun j => j = w.heap.size + 1 ∨ j = w.heap.size + 1) w5 (((w5.setCell ⟨w.heap.size + 1, 0, none⟩ (.int .i64 2)).setCell ⟨w.heap.size + 1, 1, none⟩ (.string ⟨tx.toArray⟩)).setCell ⟨w.heap.size + 1, 2, none⟩ (.int .i64 p.f2)) := by
      repeat' (first | exact Kept.refl _ _ | (refine Kept.setCell ?_ _ _ _ (Or.inl (Or.inl rfl))))
    have R := Aside0.mk (And.intro (lx_set2 UL.out U1.out U1.out (by omega) (by omega) k6) (Kept.trans UK.out k6 (fun j hj q => by rcases q with q | q <;> omega)))
    go_wp2_with (fail)
    ((try simp only [Exit.inBlock, Exit.then]); refine bodyPost_ret (by simp [results, Tryd.results40, go_sem, *]; try rfl) rfl ?_)
    exact ⟨rfl, R.out.1, R.out.2⟩
theorem token_calls (g : Nat) (w : World) (s : ByteArray) (p : Pt) (r : List Pt) (R : TRes) (hL : LxT g w s (p :: r)) (hpi : PartIn s p) (hpr : ∀ q ∈ r, PartIn s q) (hs : s.size ≤ 40000) (hll : r.length ≤ 100000) (h : tokenP s p r = some R) : Calls Tryd.prog 40 #[.pointer (some ⟨g, 0, none⟩)] w (TokPost g w s R) := by
  obtain ⟨T, hLx, hT⟩ := hL
  have hTb := hT (by simp)
  unfold tokenP at h
  by_cases c0 : p.f1 = sQuote
  · rw [if_pos c0] at h
    obtain ⟨q, hq, hR⟩ := Option.map_eq_some_iff.1 h
    have e : R = quoR p r q := by
      rw [← hR]
      unfold quoR
      cases q with
      | none => rfl
      | some x => rfl
    rw [e]
    exact tok_quote g T w s p r hLx hTb hpi hpr hs hll ⟨c0⟩ _ q hq
  · rw [if_neg c0] at h
    by_cases c1 : p.f0 = 1
    · rw [if_pos c1] at h
      obtain rfl := Option.some.inj h
      exact tok_num g T w s p r hLx hTb hpi hpr hs hll c0 ⟨c1⟩
    · rw [if_neg c1] at h
      by_cases c2 : p.f0 = 2
      · rw [if_pos c2] at h
        obtain rfl := Option.some.inj h
        exact tok_name g T w s p r hLx hTb hpi hpr hs hll c0 c1 ⟨c2⟩
      · rw [if_neg c2] at h
        obtain rfl := Option.some.inj h
        exact tok_sign g T w s p r hLx hTb hpi hpr hs hll c0 c1 c2
end Go.Proofs.YtfgogfdbjbnlbaaDoor.PExpr
end
