/- What the claim of CardKindFinds needs, out of the session's texts, in their order. -/
import Derived.Test.YtfgogfdbjbnlbaaDoorKuH
import Derived.Defers
import Derived.Recover
section
namespace Go.Proofs.YtfgogfdbjbnlbaaDoor.PExpr
open Go.RowKit Go.Proofs.YtfgogfdbjbnlbaaDoorW.PrintWords Go.Proofs.YtfgogfdbjbnlbaaDoorW.PrintLast Go.Proofs.YtfgogfdbjbnlbaaDoorW.PrintMore
set_option linter.unusedVariables false
set_option linter.unusedSimpArgs false
set_option maxHeartbeats 2000000 in
set_option maxRecDepth 100000 in
theorem catch_idle (b2 b3 b4 : Nat) (w : World) :
    CallsD Tryd.prog 39 #[.pointer (some ⟨b2, 0, none⟩), .pointer (some ⟨b3, 0, none⟩), .pointer (some ⟨b4, 0, none⟩)] .returning w fun e u' w' => e = .returned (.tuple #[]) ∧ u' = .returning ∧ w' = w := by
  refine callsD_of_wpS Tryd.func39 rfl fun c₀ cs hu => ?_
  apply wpS_seq
  apply wpS_region
  simp [wpOpsS, go_sem, recoverD, hu, Tryd.ntmps39, Exit.thenS]
  refine wpS_of_wp ?_
  go_wp2_with (fail)
  cases c₀
  simp_all [bodyPostS, results, Tryd.results39]
theorem is_stop (v : Value) (w : World) : (Instr.typeAssert (.iface 78 v) 20 78 true).run Tryd.prog w = .ok (.tuple #[v, .bool true]) w := by
  have hu := Tryd.underlying78
  simp [Instr.typeAssert, run_underlying hu]
set_option maxHeartbeats 2000000 in
set_option maxRecDepth 100000 in
theorem catch_stop (b2 b3 b4 : Nat) (why pos : Int) (older : List PanicEntry) (w : World) (h2 : ∃ cs, cs.size = 4 ∧ w.heap[b2]? = some (.cells cs 58 (0, 0))) (h3 : ∃ x, w.heap[b3]? = some (.cells #[.int .i64 x] 3 (0, 0))) (h4 : ∃ x, w.heap[b4]? = some (.cells #[.int .i64 x] 31 (0, 0))) (h23 : b2 ≠ b3) (h24 : b2 ≠ b4) (h34 : b3 ≠ b4) :
    CallsD Tryd.prog 39 #[.pointer (some ⟨b2, 0, none⟩), .pointer (some ⟨b3, 0, none⟩), .pointer (some ⟨b4, 0, none⟩)] (.panicking ({ v := stopV why pos, recovered := false } :: older)) w fun e u' w' => e = .returned (.tuple #[]) ∧ u' = .panicking ({ v := stopV why pos, recovered := true } :: older) ∧
      w'.heap[b2]? = some (.cells #[.int .i64 0, .string ⟨#[]⟩, .slice none 0 0, .int .i64 0] 58 (0, 0)) ∧ w'.heap[b3]? = some (.cells #[.int .i64 pos] 3 (0, 0)) ∧ w'.heap[b4]? = some (.cells #[.int .i64 why] 31 (0, 0)) ∧ Kept (fun k => k = b2 ∨ k = b3 ∨ k = b4) w w' := by
  obtain ⟨cs2, hs2, h2⟩ := h2
  obtain ⟨y0, y1, y2, y3, rfl⟩ : ∃ y0 y1 y2 y3, cs2 = #[y0, y1, y2, y3] := by
    match cs2, hs2 with
    | ⟨[y0, y1, y2, y3]⟩, _ => exact ⟨y0, y1, y2, y3, rfl⟩
  clear hs2
  obtain ⟨x3, h3⟩ := h3
  obtain ⟨x4, h4⟩ := h4
  have l2 := blk_lt h2
  have l3 := blk_lt h3
  have l4 := blk_lt h4
  have H2 := Aside0.mk h2
  have H3 := Aside0.mk h3
  have H4 := Aside0.mk h4
  have q2 := fun i => blk_cell h2 i
  have q3 := blk_cell h3 0
  have q4 := blk_cell h4 0
  have f2 := fun i => blk_frozen h2 i
  have f3 := blk_frozen h3 0
  have f4 := blk_frozen h4 0
  have his := is_stop
  clear h2 h3 h4
  refine callsD_of_wpS Tryd.func39 rfl fun c₀ cs hu => ?_
  apply wpS_seq
  apply wpS_region
  simp [wpOpsS, go_sem, recoverD, hu, Tryd.ntmps39, Exit.thenS, stopV]
  refine wpS_of_wp ?_
  go_wp2_with (fail)
  have HA := Aside0.mk (heap_alloc_new w (.cells #[.int .i64 why, .int .i64 pos] 78))
  have A2 := Aside0.mk (blk_alloc H2.out (.cells #[.int .i64 why, .int .i64 pos] 78))
  have A3 := Aside0.mk (blk_alloc H3.out (.cells #[.int .i64 why, .int .i64 pos] 78))
  have A4 := Aside0.mk (blk_alloc H4.out (.cells #[.int .i64 why, .int .i64 pos] 78))
  have KA := Aside0.mk ((Kept.refl (fun k => k = b2 ∨ k = b3 ∨ k = b4) w).alloc (.cells #[.int .i64 why, .int .i64 pos] 78))
  clear q2 q3 q4 f2 f3 f4 H2 H3 H4
  have h32 := h23.symm
  have h42 := h24.symm
  have h43 := h34.symm
  generalize w.alloc (.cells #[.int .i64 why, .int .i64 pos] 78) = wa at HA A2 A3 A4 KA ⊢
  refine start_ (n := 8) (S := fun w' => w'.cell? ⟨w.heap.size, 0, none⟩ = some (.int .i64 why) ∧ w'.cell? ⟨w.heap.size, 1, none⟩ = some (.int .i64 pos)) (ds := []) #[false, false, false, false, false, false, false, false] (by kernel_rfl) rfl rfl ⟨(blk_cell HA.out 0).trans rfl, (blk_cell HA.out 1).trans rfl⟩ (fun hHeld => ?_)
  ((refine rpure (i := 0) (N := some 12) (v := ?_) (a' := ?_) rfl rfl (by kernel_rfl) (fun _ _ _ h => h) (Or.inl ⟨by rfl, ?_⟩) ?_ ?_); rotate_left; (· intro w'; go_simp; with_reducible rfl); rotate_left; (· (simp only [Act.put, List.setIfInBounds_toArray, List.set_cons_zero, List.set_cons_succ, i64_w, i32_w]; rfl)))
  ((refine rpure (i := 1) (N := some 13) (v := ?_) (a' := ?_) rfl rfl (by kernel_rfl) (fun _ _ _ h => h) (Or.inl ⟨by rfl, ?_⟩) ?_ ?_); rotate_left; (· intro w'; go_simp; with_reducible rfl); rotate_left; (· (simp only [Act.put, List.setIfInBounds_toArray, List.set_cons_zero, List.set_cons_succ, i64_w, i32_w]; rfl)))
  ((refine rtake (i := 2) (N := some 14) (v := ?_) (a' := ?_) rfl rfl (by kernel_rfl) (fun _ _ _ h => h) (Or.inl ⟨by rfl, ?_⟩) hHeld ?_ ?_); rotate_left; (· rintro w' ⟨s0, s1⟩; go_simp; with_reducible rfl); rotate_left; (· (simp only [Act.put, List.setIfInBounds_toArray, List.set_cons_zero, List.set_cons_succ, i64_w, i32_w]; rfl)))
  ((refine rpure (i := 3) (N := some 15) (v := ?_) (a' := ?_) rfl rfl (by kernel_rfl) (fun _ _ _ h => h) (Or.inl ⟨by rfl, ?_⟩) ?_ ?_); rotate_left; (· intro w'; go_simp; with_reducible rfl); rotate_left; (· (simp only [Act.put, List.setIfInBounds_toArray, List.set_cons_zero, List.set_cons_succ, i64_w, i32_w]; rfl)))
  ((refine rtake (i := 4) (N := some 16) (v := ?_) (a' := ?_) rfl rfl (by kernel_rfl) (fun _ _ _ h => h) (Or.inl ⟨by rfl, ?_⟩) hHeld ?_ ?_); rotate_left; (· rintro w' ⟨s0, s1⟩; go_simp; with_reducible rfl); rotate_left; (· (simp only [Act.put, List.setIfInBounds_toArray, List.set_cons_zero, List.set_cons_succ, i64_w, i32_w]; rfl)))
  have B2 := Aside0.mk (show wa.drew.heap[b2]? = _ from A2.out)
  have B3 := Aside0.mk (show wa.drew.heap[b3]? = _ from A3.out)
  have B4 := Aside0.mk (show wa.drew.heap[b4]? = _ from A4.out)
  have KB := Aside0.mk KA.out.drew
  have BA := Aside0.mk (show wa.drew.heap[w.heap.size]? = _ from HA.out)
  have hn2 : w.heap.size ≠ b2 := by omega
  have hn3 : w.heap.size ≠ b3 := by omega
  have hn4 : w.heap.size ≠ b4 := by omega
  clear A2 A3 A4 KA HA hHeld
  generalize wa.drew = w0 at B2 B3 B4 BA KB ⊢
  refine rone (i := 5) (N := none) rfl rfl (by kernel_rfl) (by decide) (fun K hK => ?_)
  rw [if_pos (by rfl)]
  unfold Oper.wp
  have q := fun i => blk_cell B2.out i
  have f := fun i => blk_frozen B2.out i
  go_simp
  have CA := Aside0.mk (blk_setO (i := 3) (v := .int .i64 0) (blk_setO (i := 2) (v := .slice none 0 0) (blk_setO (i := 1) (v := .string ⟨#[]⟩) (blk_setO (i := 0) (v := .int .i64 0) (BA.out) hn2) hn2) hn2) hn2)
  refine hK _ _ ⟨(blk_cell CA.out 0).trans rfl, (blk_cell CA.out 1).trans rfl⟩ (fun hHeld => ?_)
  clear q f hK K hHeld
  have C2 := Aside0.mk (show ((((w0.setCell ⟨b2, 0, none⟩ (.int .i64 0)).setCell ⟨b2, 1, none⟩ (.string ⟨#[]⟩)).setCell ⟨b2, 2, none⟩ (.slice none 0 0)).setCell ⟨b2, 3, none⟩ (.int .i64 0)).heap[b2]? = some (.cells #[.int .i64 0, .string ⟨#[]⟩, .slice none 0 0, .int .i64 0] 58 (0, 0)) from blk_set (blk_set (blk_set (blk_set (B2.out) 0 (.int .i64 0)) 1 (.string ⟨#[]⟩)) 2 (.slice none 0 0)) 3 (.int .i64 0))
  have C3 := Aside0.mk (blk_setO (i := 3) (v := .int .i64 0) (blk_setO (i := 2) (v := .slice none 0 0) (blk_setO (i := 1) (v := .string ⟨#[]⟩) (blk_setO (i := 0) (v := .int .i64 0) (B3.out) h32) h32) h32) h32)
  have C4 := Aside0.mk (blk_setO (i := 3) (v := .int .i64 0) (blk_setO (i := 2) (v := .slice none 0 0) (blk_setO (i := 1) (v := .string ⟨#[]⟩) (blk_setO (i := 0) (v := .int .i64 0) (B4.out) h42) h42) h42) h42)
  have KC := Aside0.mk (((((KB.out).setCell b2 0 (.int .i64 0) (Or.inl (Or.inl rfl))).setCell b2 1 (.string ⟨#[]⟩) (Or.inl (Or.inl rfl))).setCell b2 2 (.slice none 0 0) (Or.inl (Or.inl rfl))).setCell b2 3 (.int .i64 0) (Or.inl (Or.inl rfl)))
  clear B2 B3 B4 KB BA
  generalize (((w0.setCell ⟨b2, 0, none⟩ (.int .i64 0)).setCell ⟨b2, 1, none⟩ (.string ⟨#[]⟩)).setCell ⟨b2, 2, none⟩ (.slice none 0 0)).setCell ⟨b2, 3, none⟩ (.int .i64 0) = w1 at C2 C3 C4 CA KC ⊢
  have BA := CA
  have B2 := C2
  have B3 := C3
  have B4 := C4
  have KB := KC
  clear C2 C3 C4 CA KC
  refine rone (i := 6) (N := none) rfl rfl (by kernel_rfl) (by decide) (fun K hK => ?_)
  rw [if_pos (by rfl)]
  unfold Oper.wp
  have q := fun i => blk_cell B3.out i
  have f := fun i => blk_frozen B3.out i
  go_simp
  have CA := Aside0.mk (blk_setO (i := 0) (v := .int .i64 pos) (BA.out) hn3)
  refine hK _ _ ⟨(blk_cell CA.out 0).trans rfl, (blk_cell CA.out 1).trans rfl⟩ (fun hHeld => ?_)
  clear q f hK K hHeld
  have C2 := Aside0.mk (blk_setO (i := 0) (v := .int .i64 pos) (B2.out) h23)
  have C3 := Aside0.mk (show (w1.setCell ⟨b3, 0, none⟩ (.int .i64 pos)).heap[b3]? = some (.cells #[.int .i64 pos] 3 (0, 0)) from blk_set (B3.out) 0 (.int .i64 pos))
  have C4 := Aside0.mk (blk_setO (i := 0) (v := .int .i64 pos) (B4.out) h43)
  have KC := Aside0.mk ((KB.out).setCell b3 0 (.int .i64 pos) (Or.inl (Or.inr (Or.inl rfl))))
  clear B2 B3 B4 KB BA
  generalize w1.setCell ⟨b3, 0, none⟩ (.int .i64 pos) = w2 at C2 C3 C4 CA KC ⊢
  have BA := CA
  have B2 := C2
  have B3 := C3
  have B4 := C4
  have KB := KC
  clear C2 C3 C4 CA KC
  refine rone (i := 7) (N := none) rfl rfl (by kernel_rfl) (by decide) (fun K hK => ?_)
  rw [if_pos (by rfl)]
  unfold Oper.wp
  have q := fun i => blk_cell B4.out i
  have f := fun i => blk_frozen B4.out i
  go_simp
  have CA := Aside0.mk (blk_setO (i := 0) (v := .int .i64 why) (BA.out) hn4)
  refine hK _ _ ⟨(blk_cell CA.out 0).trans rfl, (blk_cell CA.out 1).trans rfl⟩ (fun hHeld => ?_)
  clear q f hK K hHeld
  have C2 := Aside0.mk (blk_setO (i := 0) (v := .int .i64 why) (B2.out) h24)
  have C3 := Aside0.mk (blk_setO (i := 0) (v := .int .i64 why) (B3.out) h34)
  have C4 := Aside0.mk (show (w2.setCell ⟨b4, 0, none⟩ (.int .i64 why)).heap[b4]? = some (.cells #[.int .i64 why] 31 (0, 0)) from blk_set (B4.out) 0 (.int .i64 why))
  have KC := Aside0.mk ((KB.out).setCell b4 0 (.int .i64 why) (Or.inl (Or.inr (Or.inr rfl))))
  clear B2 B3 B4 KB BA
  generalize w2.setCell ⟨b4, 0, none⟩ (.int .i64 why) = w3 at C2 C3 C4 CA KC ⊢
  have BA := CA
  have B2 := C2
  have B3 := C3
  have B4 := C4
  have KB := KC
  clear C2 C3 C4 CA KC
  refine done_ (by kernel_rfl) ?_
  go_wp2_with (fail)
  exact ⟨rfl, _, rfl, _, results_none rfl _ _ _, rfl, rfl, B2.out, B3.out, B4.out, KB.out⟩
end Go.Proofs.YtfgogfdbjbnlbaaDoor.PExpr
end
section
namespace Go.Proofs.YtfgogfdbjbnlbaaDoor.PExpr
open Go.RowKit Go.Proofs.YtfgogfdbjbnlbaaDoorW.PrintWords Go.Proofs.YtfgogfdbjbnlbaaDoorW.PrintLast Go.Proofs.YtfgogfdbjbnlbaaDoorW.PrintMore
set_option linter.unusedVariables false
set_option linter.unusedSimpArgs false
inductive LexR where
  | toks (l : List Tk)
  | bad (why pos : Int)
def lexL (s : ByteArray) : Nat → List Tk → List Pt → Option LexR
  | 0, _, _ => none
  | _ + 1, acc, [] => some (.toks acc)
  | f + 1, acc, p :: r => (tokenP s p r).bind fun R => match R with
    | .bad why pos => some (.bad why pos)
    | .ok t l => lexL s f (acc ++ [t]) l
def zeroN : Nd := ⟨0, ⟨#[]⟩, [], 0⟩
def readP (toks : List Tk) : Option (Nd × Int × Int) :=
  (parse 5000 0 0 toks).bind fun R => match R with
    | .bad why pos => some (zeroN, pos, why)
    | .ok n l => match l with
      | [] => none
      | t :: _ => if t.f0 ≠ 4 then some (zeroN, t.f2, 30) else some (n, 0, 0)
def lastT (s : ByteArray) : Tk := ⟨4, ⟨#[]⟩, s.size⟩
def parseS (s : ByteArray) : Option (Nd × Int × Int) :=
  (word_Split.f s).bind fun x => if x.2.2 ≠ 0 then some (zeroN, x.2.1, x.2.2) else
    (lexL s (x.1.length + 1) [] x.1).bind fun R => match R with
      | .bad why pos => some (zeroN, pos, why)
      | .toks l => readP (l ++ [lastT s])
theorem results_put (tmps : Array Value) (n : Nat) (v : Value) (h : n ≠ 2 ∧ n ≠ 3 ∧ n ≠ 4) : results Tryd.f23 (tmps.setIfInBounds n v) = results Tryd.f23 tmps := by
  unfold results
  rw [Tryd.results23]
  simp [Array.getElem?_setIfInBounds, h.1, h.2.1, h.2.2]
theorem leaves_put {tmps : Array Value} {n : Nat} {v : Value} {R : Ending → World → Prop} (h : n ≠ 2 ∧ n ≠ 3 ∧ n ≠ 4) : ∀ (ds : List Deferred) (u : FrameMode) (w : World), Leaves Tryd.prog Tryd.f23 (tmps.setIfInBounds n v) R ds u w → Leaves Tryd.prog Tryd.f23 tmps R ds u w
  | [], .returning, w, hl => by
    obtain ⟨x, h1, h2⟩ := hl
    rw [results_put tmps n v h] at h1
    exact ⟨x, h1, h2⟩
  | [], .panicking chain, w, hl => hl
  | [], .run, w, hl => hl
  | d :: ds, u, w, hl => by
    obtain ⟨h1, fv, cap, f, args, h2, h3, h4⟩ := hl
    refine ⟨h1, fv, cap, f, args, h2, h3, h4.mono fun e u' w' he => ?_⟩
    cases e with
    | returned x => exact leaves_put h ds _ _ he
    | panicked chain => exact leaves_put h ds _ _ he
    | outgrown => exact he
theorem put_ok {n : Nat} (h : n ≠ 2 ∧ n ≠ 3 ∧ n ≠ 4) {R : Ending → World → Prop} (c : List PanicEntry) (a : Act) {v : Value} (w : World) (hq : bodyPostD Tryd.prog Tryd.f23 R (.panic c) (a.put (some n) v) w) : bodyPostD Tryd.prog Tryd.f23 R (.panic c) a w :=
  leaves_put h a.defers _ w hq
end Go.Proofs.YtfgogfdbjbnlbaaDoor.PExpr
end
section
namespace Go.Proofs.YtfgogfdbjbnlbaaDoor.PExpr
open Go.RowKit Go.Proofs.YtfgogfdbjbnlbaaDoorW.PrintWords Go.Proofs.YtfgogfdbjbnlbaaDoorW.PrintLast Go.Proofs.YtfgogfdbjbnlbaaDoorW.PrintMore
set_option linter.unusedVariables false
set_option linter.unusedSimpArgs false
def caught (b2 b3 b4 : Nat) : Deferred := { target := .fn (.func 39) #[.pointer (some ⟨b2, 0, none⟩), .pointer (some ⟨b3, 0, none⟩), .pointer (some ⟨b4, 0, none⟩)], args := #[] }
theorem parse_results {tmps : Array Value} {w : World} {b2 b3 b4 : Nat} {n : Nd} {A : Option Addr} {c : Nat} {pos why : Int} (t2 : tmps[2]? = some (.pointer (some ⟨b2, 0, none⟩))) (t3 : tmps[3]? = some (.pointer (some ⟨b3, 0, none⟩))) (t4 : tmps[4]? = some (.pointer (some ⟨b4, 0, none⟩)))
    (h2 : w.heap[b2]? = some (.cells (ndCs n A c) 58 (0, 0))) (h3 : w.heap[b3]? = some (.cells #[.int .i64 pos] 3 (0, 0))) (h4 : w.heap[b4]? = some (.cells #[.int .i64 why] 31 (0, 0))) :
    (results Tryd.f23 tmps).run Tryd.prog w = .ok (.tuple #[ndV n A c, .int .i64 pos, .int .i64 why]) w := by
  have q2 := fun i => blk_cell h2 i
  have q3 := blk_cell h3 0
  have q4 := blk_cell h4 0
  simp only [ndCs] at q2
  simp [results, Tryd.results23, t2, t3, t4, q2, q3, q4, go_sem, ndV]
theorem thrown_end {tmps : Array Value} {R : Ending → World → Prop} {w : World} {b2 b3 b4 : Nat} {why pos : Int} (t2 : tmps[2]? = some (.pointer (some ⟨b2, 0, none⟩))) (t3 : tmps[3]? = some (.pointer (some ⟨b3, 0, none⟩))) (t4 : tmps[4]? = some (.pointer (some ⟨b4, 0, none⟩)))
    (h2 : ∃ cs, cs.size = 4 ∧ w.heap[b2]? = some (.cells cs 58 (0, 0))) (h3 : ∃ x, w.heap[b3]? = some (.cells #[.int .i64 x] 3 (0, 0))) (h4 : ∃ x, w.heap[b4]? = some (.cells #[.int .i64 x] 31 (0, 0))) (h23 : b2 ≠ b3) (h24 : b2 ≠ b4) (h34 : b3 ≠ b4)
    (hR : ∀ w', Kept (fun k => k = b2 ∨ k = b3 ∨ k = b4) w w' → R (.returned (.tuple #[ndV zeroN none 0, .int .i64 pos, .int .i64 why])) w') :
    Leaves Tryd.prog Tryd.f23 tmps R [caught b2 b3 b4] (.panicking [{ v := stopV why pos, recovered := false }]) w := by
  unfold caught
  refine leaves_cons (f := 39) (args := #[.pointer (some ⟨b2, 0, none⟩), .pointer (some ⟨b3, 0, none⟩), .pointer (some ⟨b4, 0, none⟩)]) (by simp) (by simp [go_sem]) ?_
  refine (catch_stop b2 b3 b4 why pos [] w h2 h3 h4 h23 h24 h34).mono ?_
  rintro e u' w' ⟨rfl, rfl, c2, c3, c4, hk⟩
  exact ⟨_, parse_results (n := zeroN) (A := none) (c := 0) t2 t3 t4 c2 c3 c4, hR w' hk⟩
theorem idle_end {tmps : Array Value} {R : Ending → World → Prop} {w : World} {b2 b3 b4 : Nat} {n : Nd} {A : Option Addr} {c : Nat} {pos why : Int} (t2 : tmps[2]? = some (.pointer (some ⟨b2, 0, none⟩))) (t3 : tmps[3]? = some (.pointer (some ⟨b3, 0, none⟩))) (t4 : tmps[4]? = some (.pointer (some ⟨b4, 0, none⟩)))
    (h2 : w.heap[b2]? = some (.cells (ndCs n A c) 58 (0, 0))) (h3 : w.heap[b3]? = some (.cells #[.int .i64 pos] 3 (0, 0))) (h4 : w.heap[b4]? = some (.cells #[.int .i64 why] 31 (0, 0)))
    (hR : R (.returned (.tuple #[ndV n A c, .int .i64 pos, .int .i64 why])) w) :
    Leaves Tryd.prog Tryd.f23 tmps R [caught b2 b3 b4] .returning w := by
  unfold caught
  refine leaves_cons (f := 39) (args := #[.pointer (some ⟨b2, 0, none⟩), .pointer (some ⟨b3, 0, none⟩), .pointer (some ⟨b4, 0, none⟩)]) (by simp) (by simp [go_sem]) ?_
  refine (catch_idle b2 b3 b4 w).mono ?_
  rintro e u' w' ⟨rfl, rfl, rfl⟩
  exact ⟨_, parse_results t2 t3 t4 h2 h3 h4, hR⟩
end Go.Proofs.YtfgogfdbjbnlbaaDoor.PExpr
end
section
namespace Go.Proofs.YtfgogfdbjbnlbaaDoor.PExpr
open Go.RowKit Go.Proofs.YtfgogfdbjbnlbaaDoorW.PrintWords Go.Proofs.YtfgogfdbjbnlbaaDoorW.PrintLast Go.Proofs.YtfgogfdbjbnlbaaDoorW.PrintMore
set_option linter.unusedVariables false
set_option linter.unusedSimpArgs false
def tkL (p : Tk) : List Value := [.int .i64 p.f0, .string p.f1, .int .i64 p.f2]
def flatT (ps : List Tk) : List Value := ps.flatMap tkL
abbrev OwnT (base : Nat) (w : World) (v : Value) (n : Nat) (ps : List Tk) : Prop := w.ownsRow base 87 3 v n (flatT ps)
theorem flatT_cons (p : Tk) (r : List Tk) : flatT (p :: r) = tkL p ++ flatT r := by unfold flatT; rw [List.flatMap_cons]
theorem flatT_get (ps : List Tk) : ∀ (j i : Nat) (p : Tk), ps[j]? = some p → i < 3 → (flatT ps)[j * 3 + i]? = (tkL p)[i]? := by
  induction ps with
  | nil => intro j i p h; simp at h
  | cons a r ih =>
    intro j i p h hi
    have el : (tkL a).length = 3 := rfl
    rw [flatT_cons]
    cases j with
    | zero =>
      obtain rfl := Option.some.inj (show some a = some p from h)
      rw [Nat.zero_mul, Nat.zero_add, List.getElem?_append_left (by rw [el]; exact hi)]
    | succ j =>
      rw [List.getElem?_append_right (by rw [el]; omega), el, show (j + 1) * 3 + i - 3 = j * 3 + i by omega]
      exact ih j i p (by simpa using h) hi
theorem OwnT.at {base G cap n : Nat} {w : World} {ps : List Tk} (h : OwnT base w (.slice (some ⟨G, 0, none⟩) n cap) n ps) (hn : n = ps.length) {j : Nat} {p : Tk} (hj : ps[j]? = some p) : w.cell? ⟨G, j * 3, none⟩ = some (.int .i64 p.f0) ∧ w.cell? ⟨G, j * 3 + 1, none⟩ = some (.string p.f1) ∧ w.cell? ⟨G, j * 3 + 2, none⟩ = some (.int .i64 p.f2) := by
  have hl := (List.getElem?_eq_some_iff.1 hj).1
  refine ⟨?_, ?_, ?_⟩
  · rw [h.cellAt (j * 3) (by omega)]
    exact flatT_get ps j 0 p hj (by omega)
  · rw [h.cellAt (j * 3 + 1) (by omega)]
    exact flatT_get ps j 1 p hj (by omega)
  · rw [h.cellAt (j * 3 + 2) (by omega)]
    exact flatT_get ps j 2 p hj (by omega)
theorem OwnT.same {base : Nat} {w w' : World} {v : Value} {n : Nat} {ps : List Tk} (h : OwnT base w v n ps) (hb : ∀ j, v.ownBlock = some j → w'.heap[j]? = w.heap[j]?) : OwnT base w' v n ps := by
  refine ⟨h.1, ?_⟩
  rcases h.2 with q | ⟨g, cap, cur, q1, q2, q3, q4⟩
  · exact .inl q
  · exact .inr ⟨g, cap, cur, q1, q2, by rw [hb g (by rw [q1]; rfl)]; exact q3, q4⟩
theorem OwnT.below {base : Nat} {w w' : World} {v : Value} {n : Nat} {ps : List Tk} (h : OwnT base w v n ps) (hb : Below w.heap.size w w') : OwnT base w' v n ps :=
  h.same fun j hj => hb.block j (h.lt j hj).2
theorem OwnT.kd {base : Nat} {w : World} {A : Option Addr} {n c : Nat} {ps : List Tk} (h : OwnT base w (.slice A n c) n ps) (hn : n = ps.length) : Kd.C kTk w A ps.length ps := by
  rcases h.2 with ⟨q1, q2⟩ | ⟨g, cap, cur, q1, q2, q3, q4, q5, q6, q7⟩
  · have : ps = [] := by
      have : ps.length = 0 := by omega
      simpa using this
    subst this
    injection q1 with q1 _ _
    subst q1
    exact ⟨rfl, by simp, fun q => absurd q (by simp)⟩
  · have h' := h
    injection q1 with q1 _ q8
    subst q1
    subst q8
    refine ⟨rfl, by simp [maxLen] at q5; omega, fun _ => ⟨_, rfl, fun j p hj => ?_⟩⟩
    obtain ⟨x0, x1, x2⟩ := h'.at hn hj
    refine ⟨_, rfl, k87_mk w p, fun i u hu => ?_⟩
    have es : (kTk).sz = 3 := rfl
    rw [es, add_plain]
    try rw [Nat.zero_add]
    match i, hu with
    | 0, hu =>
      obtain rfl := Option.some.inj hu
      exact x0
    | 1, hu =>
      obtain rfl := Option.some.inj hu
      exact x1
    | 2, hu =>
      obtain rfl := Option.some.inj hu
      exact x2
theorem flatT_snoc (l : List Tk) (t : Tk) : flatT (l ++ [t]) = flatT l ++ tkL t := by
  unfold flatT
  simp
theorem OwnT.kept {base : Nat} {w w' : World} {v : Value} {n : Nat} {ps : List Tk} {S : Nat → Prop} (h : OwnT base w v n ps) (k : Kept S w w') (hS : ∀ j, j < w.heap.size → base ≤ j → ¬ S j) : OwnT base w' v n ps :=
  h.same fun j hj => k.block j (h.lt j hj).2 (hS j (h.lt j hj).2 (h.lt j hj).1)
theorem infoTk : (Tryd.prog.info? 87).map (fun i => (i.zero, i.size, i.bytes)) = some (some (.agg #[(.int .i64 0), (.string ⟨#[]⟩), (.int .i64 0)]), 3, 32) := by kernel_rfl
theorem OwnT.ne {base : Nat} {w : World} {v : Value} {n : Nat} {ps : List Tk} (h : OwnT base w v n ps) {j : Nat} {cs : Array Value} {ty : TypeId} (hj : w.heap[j]? = some (.cells cs ty (0, 0))) (hty : ty ≠ 87) : some j ≠ v.ownBlock := fun q => by
  rcases h.2 with ⟨q1, q2⟩ | ⟨g', cap', cur', q1, q2, q3, q4⟩
  · rw [q1] at q
    simp [Value.ownBlock] at q
  · rw [q1] at q
    have q' : j = g' := by simpa [Value.ownBlock] using q
    subst q'
    rw [hj] at q3
    injection q3 with q3
    injection q3 with q3 q5
    exact hty q5
theorem OwnT.form {base : Nat} {w : World} {v : Value} {n : Nat} {ps : List Tk} (h : OwnT base w v n ps) : ∃ A c, v = .slice A n c ∧ n ≤ c := by
  rcases h.2 with ⟨q1, q2⟩ | ⟨g, cap, cur, q1, q2, q3, q4, _⟩
  · exact ⟨none, 0, by rw [q1, q2], by omega⟩
  · exact ⟨_, cap, q1, q4⟩
theorem OwnT.rd {base g n c : Nat} {w : World} {A : Option Addr} {ps : List Tk} {d : Int} (h : OwnT base w (.slice A n c) n ps) (hn : n = ps.length) (hp : ps ≠ []) (hb : w.heap[g]? = some (.cells #[.slice A n c, .int .i64 d] 85 (0, 0))) (hg : g < base) (hc : n ≤ c) : ∃ T, Rd g T w ps d ∧ base ≤ T := by
  have hk := h.kd hn
  rcases h.2 with ⟨q1, q2⟩ | ⟨G, cap, cur, q1, q2, q3, _⟩
  · exact absurd (by have : ps.length = 0 := by omega
                     simpa using this) hp
  · injection q1 with q1 _ q8
    subst q1
    subst hn
    exact ⟨G, ⟨0, c, hb, hc, by omega, hk⟩, q2⟩
end Go.Proofs.YtfgogfdbjbnlbaaDoor.PExpr
end
