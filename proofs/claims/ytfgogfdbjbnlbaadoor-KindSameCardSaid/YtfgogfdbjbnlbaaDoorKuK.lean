/- What the claim of CardKindFinds needs, out of the session's texts, in their order. -/
import Derived.Test.YtfgogfdbjbnlbaaDoorKuJ
import Derived.Great.Walk
section
namespace Go.Proofs.YtfgogfdbjbnlbaaDoor.PExpr
open Go.RowKit Go.Proofs.YtfgogfdbjbnlbaaDoorW.PrintWords Go.Proofs.YtfgogfdbjbnlbaaDoorW.PrintLast Go.Proofs.YtfgogfdbjbnlbaaDoorW.PrintMore
set_option linter.unusedVariables false
set_option linter.unusedSimpArgs false
abbrev RRow := S27
abbrev kRRow := k27
def rowsR : List RRow := [
  ⟨⟨#[43]⟩, [2, 2], 2⟩,
  ⟨⟨#[43]⟩, [3, 3], 3⟩,
  ⟨⟨#[43]⟩, [2, 3], 3⟩,
  ⟨⟨#[43]⟩, [3, 2], 3⟩,
  ⟨⟨#[43]⟩, [5, 2], 5⟩,
  ⟨⟨#[43]⟩, [2, 5], 5⟩,
  ⟨⟨#[43]⟩, [5, 8], 6⟩,
  ⟨⟨#[43]⟩, [8, 5], 6⟩,
  ⟨⟨#[43]⟩, [6, 8], 6⟩,
  ⟨⟨#[43]⟩, [8, 6], 6⟩,
  ⟨⟨#[43]⟩, [7, 8], 7⟩,
  ⟨⟨#[43]⟩, [8, 7], 7⟩,
  ⟨⟨#[43]⟩, [8, 8], 8⟩,
  ⟨⟨#[45]⟩, [2, 2], 2⟩,
  ⟨⟨#[45]⟩, [3, 3], 3⟩,
  ⟨⟨#[45]⟩, [2, 3], 3⟩,
  ⟨⟨#[45]⟩, [3, 2], 3⟩,
  ⟨⟨#[45]⟩, [5, 2], 5⟩,
  ⟨⟨#[45]⟩, [5, 5], 2⟩,
  ⟨⟨#[45]⟩, [5, 8], 6⟩,
  ⟨⟨#[45]⟩, [6, 8], 6⟩,
  ⟨⟨#[45]⟩, [6, 6], 8⟩,
  ⟨⟨#[45]⟩, [7, 8], 7⟩,
  ⟨⟨#[45]⟩, [7, 7], 8⟩,
  ⟨⟨#[45]⟩, [8, 8], 8⟩,
  ⟨⟨#[42]⟩, [2, 2], 2⟩,
  ⟨⟨#[42]⟩, [3, 3], 3⟩,
  ⟨⟨#[42]⟩, [2, 3], 3⟩,
  ⟨⟨#[42]⟩, [3, 2], 3⟩,
  ⟨⟨#[42]⟩, [8, 2], 8⟩,
  ⟨⟨#[42]⟩, [2, 8], 8⟩,
  ⟨⟨#[47]⟩, [2, 2], 2⟩,
  ⟨⟨#[37]⟩, [2, 2], 2⟩,
  ⟨⟨#[97, 110, 100]⟩, [1, 1], 1⟩,
  ⟨⟨#[111, 114]⟩, [1, 1], 1⟩,
  ⟨⟨#[110, 111, 116]⟩, [1], 1⟩,
  ⟨⟨#[110, 101, 103]⟩, [2], 2⟩,
  ⟨⟨#[110, 101, 103]⟩, [3], 3⟩,
  ⟨⟨#[110, 101, 103]⟩, [8], 8⟩,
  ⟨⟨#[97, 116, 32, 116, 105, 109, 101, 32, 122, 111, 110, 101]⟩, [6, 4], 7⟩,
  ⟨⟨#[97, 116, 32, 116, 105, 109, 101, 32, 122, 111, 110, 101]⟩, [7, 4], 6⟩,
  ⟨⟨#[58, 58, 116, 101, 120, 116]⟩, [2], 4⟩,
  ⟨⟨#[58, 58, 116, 101, 120, 116]⟩, [3], 4⟩,
  ⟨⟨#[58, 58, 116, 101, 120, 116]⟩, [1], 4⟩,
  ⟨⟨#[58, 58, 116, 101, 120, 116]⟩, [4], 4⟩,
  ⟨⟨#[58, 58, 116, 101, 120, 116]⟩, [5], 4⟩,
  ⟨⟨#[58, 58, 116, 101, 120, 116]⟩, [6], 4⟩,
  ⟨⟨#[58, 58, 116, 101, 120, 116]⟩, [7], 4⟩,
  ⟨⟨#[58, 58, 116, 101, 120, 116]⟩, [8], 4⟩,
  ⟨⟨#[58, 58, 100, 97, 116, 101]⟩, [4], 5⟩,
  ⟨⟨#[58, 58, 100, 97, 116, 101]⟩, [5], 5⟩,
  ⟨⟨#[58, 58, 100, 97, 116, 101]⟩, [6], 5⟩,
  ⟨⟨#[58, 58, 100, 97, 116, 101]⟩, [7], 5⟩,
  ⟨⟨#[58, 58, 116, 105, 109, 101, 115, 116, 97, 109, 112]⟩, [4], 6⟩,
  ⟨⟨#[58, 58, 116, 105, 109, 101, 115, 116, 97, 109, 112]⟩, [5], 6⟩,
  ⟨⟨#[58, 58, 116, 105, 109, 101, 115, 116, 97, 109, 112]⟩, [6], 6⟩,
  ⟨⟨#[58, 58, 116, 105, 109, 101, 115, 116, 97, 109, 112]⟩, [7], 6⟩,
  ⟨⟨#[58, 58, 116, 105, 109, 101, 115, 116, 97, 109, 112, 116, 122]⟩, [4], 7⟩,
  ⟨⟨#[58, 58, 116, 105, 109, 101, 115, 116, 97, 109, 112, 116, 122]⟩, [5], 7⟩,
  ⟨⟨#[58, 58, 116, 105, 109, 101, 115, 116, 97, 109, 112, 116, 122]⟩, [6], 7⟩,
  ⟨⟨#[58, 58, 116, 105, 109, 101, 115, 116, 97, 109, 112, 116, 122]⟩, [7], 7⟩,
  ⟨⟨#[58, 58, 105, 110, 116, 101, 114, 118, 97, 108]⟩, [4], 8⟩,
  ⟨⟨#[58, 58, 105, 110, 116, 101, 114, 118, 97, 108]⟩, [8], 8⟩,
  ⟨⟨#[58, 58, 105, 110, 116]⟩, [4], 2⟩,
  ⟨⟨#[58, 58, 105, 110, 116]⟩, [2], 2⟩,
  ⟨⟨#[58, 58, 105, 110, 116]⟩, [3], 2⟩,
  ⟨⟨#[58, 58, 110, 117, 109, 101, 114, 105, 99]⟩, [4], 3⟩,
  ⟨⟨#[58, 58, 110, 117, 109, 101, 114, 105, 99]⟩, [2], 3⟩,
  ⟨⟨#[58, 58, 110, 117, 109, 101, 114, 105, 99]⟩, [3], 3⟩,
  ⟨⟨#[100, 97, 116, 101, 95, 116, 114, 117, 110, 99]⟩, [4, 6], 6⟩,
  ⟨⟨#[100, 97, 116, 101, 95, 116, 114, 117, 110, 99]⟩, [4, 7], 7⟩,
  ⟨⟨#[100, 97, 116, 101, 95, 116, 114, 117, 110, 99]⟩, [4, 7, 4], 7⟩,
  ⟨⟨#[100, 97, 116, 101, 95, 98, 105, 110]⟩, [8, 6, 6], 6⟩,
  ⟨⟨#[100, 97, 116, 101, 95, 98, 105, 110]⟩, [8, 7, 7], 7⟩,
  ⟨⟨#[101, 120, 116, 114, 97, 99, 116]⟩, [4, 5], 3⟩,
  ⟨⟨#[101, 120, 116, 114, 97, 99, 116]⟩, [4, 6], 3⟩,
  ⟨⟨#[101, 120, 116, 114, 97, 99, 116]⟩, [4, 7], 3⟩,
  ⟨⟨#[101, 120, 116, 114, 97, 99, 116]⟩, [4, 8], 3⟩,
  ⟨⟨#[97, 103, 101]⟩, [6, 6], 8⟩,
  ⟨⟨#[106, 117, 115, 116, 105, 102, 121]⟩, [8], 8⟩,
  ⟨⟨#[109, 97, 107, 101, 95, 100, 97, 116, 101]⟩, [2, 2, 2], 5⟩,
  ⟨⟨#[105, 115, 102, 105, 110, 105, 116, 101]⟩, [5], 1⟩,
  ⟨⟨#[105, 115, 102, 105, 110, 105, 116, 101]⟩, [6], 1⟩,
  ⟨⟨#[105, 115, 102, 105, 110, 105, 116, 101]⟩, [7], 1⟩,
  ⟨⟨#[105, 115, 102, 105, 110, 105, 116, 101]⟩, [8], 1⟩,
  ⟨⟨#[111, 118, 101, 114, 108, 97, 112, 115]⟩, [6, 6, 6, 6], 1⟩,
  ⟨⟨#[111, 118, 101, 114, 108, 97, 112, 115]⟩, [7, 7, 7, 7], 1⟩,
  ⟨⟨#[103, 101, 110, 101, 114, 97, 116, 101, 95, 115, 101, 114, 105, 101, 115]⟩, [2, 2, 2], 2⟩,
  ⟨⟨#[103, 101, 110, 101, 114, 97, 116, 101, 95, 115, 101, 114, 105, 101, 115]⟩, [6, 6, 8], 6⟩,
  ⟨⟨#[103, 101, 110, 101, 114, 97, 116, 101, 95, 115, 101, 114, 105, 101, 115]⟩, [7, 7, 8], 7⟩]
def genR : Nat → List RRow → List Oper
  | _, [] => []
  | k, r :: l =>
    { dst := some (2 * k + 1), op := .buildSlice 25 r.f1.length ((r.f1.zipIdx 0).map fun x => (x.2, Operand.const (Value.int .i64 x.1))).toArray, type := 25, pos := "ref.go:18", after := #[], guard := none } ::
    { dst := some (2 * k + 2), op := .build 27 #[(0, Operand.const (.string r.f0)), (1, Operand.tmp (2 * k + 1)), (2, Operand.const (.int .i64 r.f2))], type := 27, pos := "ref.go:18", after := #[{ on := 2 * k, ground := .data }], guard := none } ::
    genR (k + 1) l
def argO (r : RRow) : Obj := .cells (r.f1.map (Value.int .i64)).toArray 3
def allocR (w : World) : List RRow → World
  | [] => w
  | r :: l => allocR (w.alloc (argO r)) l
theorem allocR_size : ∀ (l : List RRow) (w : World), (allocR w l).heap.size = w.heap.size + l.length
  | [], w => rfl
  | r :: l, w => by
    rw [allocR, allocR_size l, World.size_alloc, List.length_cons]
    omega
theorem allocR_below : ∀ (l : List RRow) (w : World) (B : Nat), B ≤ w.heap.size → Below B w (allocR w l)
  | [], w, B, h => Below.refl _ _
  | r :: l, w, B, h => by
    have h1 : Below B w (w.alloc (argO r)) := ⟨rfl, rfl, rfl, by rw [World.size_alloc]; omega, fun j hj => (below_alloc (Below.refl w.heap.size w) (argO r)).block j (by omega)⟩
    exact h1.trans (allocR_below l (w.alloc (argO r)) B (by rw [World.size_alloc]; omega))
theorem allocR_at : ∀ (l : List RRow) (w : World) (j : Nat) (h : j < l.length), (allocR w l).heap[w.heap.size + j]? = some (argO l[j])
  | [], w, j, h => absurd h (by simp)
  | r :: l, w, 0, h => by
    rw [allocR]
    have hb := allocR_below l (w.alloc (argO r)) (w.alloc (argO r)).heap.size (Nat.le_refl _)
    rw [Nat.add_zero, hb.block w.heap.size (by rw [World.size_alloc]; omega)]
    exact heap_alloc_new w _
  | r :: l, w, j + 1, h => by
    rw [allocR]
    have := allocR_at l (w.alloc (argO r)) j (by simpa using h)
    rw [World.size_alloc] at this
    rw [show w.heap.size + (j + 1) = w.heap.size + 1 + j by omega]
    exact this
def rowV (N : Nat) (r : RRow) : Value := .agg #[.string r.f0, .slice (some ⟨N, 0, none⟩) r.f1.length r.f1.length, .int .i64 r.f2]
theorem put_at (a : Act) (d : Nat) (v : Value) (i : Nat) : (a.put (some d) v).tmps.getD i undef = if i = d ∧ d < a.tmps.size then v else a.tmps.getD i undef := by
  unfold Act.put
  simp only [Array.getD_eq_getD_getElem?, Array.getElem?_setIfInBounds]
  by_cases h : d = i
  · subst h
    by_cases h2 : d < a.tmps.size
    · simp [h2]
    · simp [h2]
  · rw [if_neg h, if_neg (fun q => h q.1.symm)]
theorem put_size (a : Act) (d : Nat) (v : Value) : (a.put (some d) v).tmps.size = a.tmps.size := by simp [Act.put]
set_option maxHeartbeats 1000000 in
theorem gen_walk {O : Array Oper} {Q : Exit → Act → World → Prop} {tail : List Oper} (N : Nat) : ∀ (l : List RRow) (k : Nat) (a : Act) (w : World), (∀ r ∈ l, 0 < r.f1.length ∧ r.f1.length ≤ 100) → 2 * (k + l.length) < a.tmps.size → w.heap.size = N + k →
    (∀ a' : Act, a'.tmps.size = a.tmps.size → a'.defers = a.defers → (∀ j (h : j < l.length), a'.tmps.getD (2 * (k + j) + 2) undef = rowV (N + (k + j)) l[j]) → (∀ i, i ≤ 2 * k → a'.tmps.getD i undef = a.tmps.getD i undef) → wpList Tryd.prog O Q tail a' (allocR w l)) →
    wpList Tryd.prog O Q (genR k l ++ tail) a w
  | [], k, a, w, _, _, _, h => h a rfl rfl (fun j hj => absurd hj (by simp)) (fun _ _ => rfl)
  | r :: l, k, a, w, hr, hs, hN, h => by
    obtain ⟨h1, h2⟩ := hr r (by simp)
    rw [genR, List.cons_append, List.cons_append]
    refine Go.wpList_buildFlatAt rfl 25 3 r.f1.length _ rfl .i64 r.f1 (N + k) hN (some (2 * k + 1)) rfl Tryd.underlying25 (by kernel_rfl) (by kernel_rfl) rfl h1 (by omega) (by simp) ?_
    have hsz : 2 * k + 2 < a.tmps.size := by simp at hs; omega
    refine Go.wpList_buildTo rfl 27 _ rfl (some (2 * k + 2)) rfl #[.string r.f0, .slice (some ⟨N + k, 0, none⟩) r.f1.length r.f1.length, .int .i64 r.f2] ?_ ?_
    · have e : (a.put (some (2 * k + 1)) (.slice (some ⟨N + k, 0, none⟩) r.f1.length r.f1.length)).eval (.tmp (2 * k + 1)) = .slice (some ⟨N + k, 0, none⟩) r.f1.length r.f1.length := by
        show (a.put _ _).tmps.getD _ undef = _
        rw [put_at, if_pos ⟨rfl, by omega⟩]
      simp only [List.map_toArray, List.map_cons, List.map_nil, e]
      generalize (Value.slice (some ⟨N + k, 0, none⟩) r.f1.length r.f1.length) = v at e
      show Program.built _ _ [(0, .string r.f0), (1, _), (2, .int .i64 r.f2)] = _
      kernel_rfl
    · refine gen_walk N l (k + 1) _ _ (fun x hx => hr x (by simp [hx])) (by rw [put_size, put_size]; simp at hs ⊢; omega) (by rw [World.size_alloc, hN]; omega) (fun a' ha hd hj hold => ?_)
      rw [put_size, put_size] at ha
      refine h a' ha hd (fun j hjl => ?_) (fun i hi => ?_)
      · cases j with
        | zero =>
          rw [hold (2 * (k + 0) + 2) (by omega), put_at, if_pos ⟨rfl, by rw [put_size]; omega⟩]
          rfl
        | succ j =>
          have := hj j (by simpa using hjl)
          rw [show k + 1 + j = k + (j + 1) by omega] at this
          exact this
      · rw [hold i (by omega), put_at, if_neg (fun q => by omega), put_at, if_neg (fun q => by omega)]
def tabCs (N : Nat) : List RRow → List Value
  | [] => []
  | r :: l => .string r.f0 :: .slice (some ⟨N, 0, none⟩) r.f1.length r.f1.length :: .int .i64 r.f2 :: tabCs (N + 1) l
def partsL (N : Nat) : Nat → List RRow → List (Nat × Value)
  | _, [] => []
  | k, r :: l => (k, rowV (N + k) r) :: partsL N (k + 1) l
theorem set3 (pre post : List Value) (x y z a b c : Value) (k : Nat) (hk : pre.length = 3 * k) : (((pre ++ x :: y :: z :: post).toArray.setIfInBounds (k * 3 + 0) a).setIfInBounds (k * 3 + 1) b).setIfInBounds (k * 3 + 2) c = ((pre ++ [a, b, c]) ++ post).toArray := by
  have e0 : k * 3 + 0 = pre.length := by omega
  have e1 : k * 3 + 1 = pre.length + 1 := by omega
  have e2 : k * 3 + 2 = pre.length + 2 := by omega
  rw [e0, e1, e2]
  simp [List.set_append]
theorem fill3 (N : Nat) : ∀ (l : List RRow) (k : Nat) (pre post : List Value), pre.length = 3 * k → post.length = 3 * l.length → Instr.fill (fun i => some (i * 3, 3)) (pre ++ post).toArray (partsL N k l) = some (pre ++ tabCs (N + k) l).toArray
  | [], k, pre, post, hk, hp => by
    have : post = [] := List.eq_nil_of_length_eq_zero (by simpa using hp)
    subst this
    rfl
  | r :: l, k, pre, x :: y :: z :: post, hk, hp => by
    have hs : (pre ++ x :: y :: z :: post).toArray.size = 3 * k + 3 + 3 * l.length := by
      simp at hp ⊢
      omega
    rw [partsL, Instr.fill]
    show (if _ then none else Instr.fill _ ((((pre ++ x :: y :: z :: post).toArray.setIfInBounds (k * 3 + 0) (.string r.f0)).setIfInBounds (k * 3 + 1) (.slice (some ⟨N + k, 0, none⟩) r.f1.length r.f1.length)).setIfInBounds (k * 3 + 2) (.int .i64 r.f2)) _) = _
    rw [set3 pre post x y z _ _ _ k hk, if_neg, fill3 N l (k + 1) _ post (by simp; omega) (by simp at hp; omega), tabCs]
    · simp [Nat.add_assoc]
    · rw [hs]
      show ¬ ((decide (3 ≠ 3) || decide (k * 3 + 3 > 3 * k + 3 + 3 * l.length)) = true)
      simp
      omega
  | r :: l, k, pre, [], hk, hp => by simp at hp
  | r :: l, k, pre, [x], hk, hp => by simp at hp; omega
  | r :: l, k, pre, [x, y], hk, hp => by simp at hp; omega
theorem tab_built (N : Nat) : Tryd.prog.builtSlice 27 90 ((List.range 90).map fun j => (j, rowV (N + j) (rowsR.getD j ⟨⟨#[]⟩, [], 0⟩))) = some (tabCs N rowsR).toArray := by
  have e : ((List.range 90).map fun j => (j, rowV (N + j) (rowsR.getD j ⟨⟨#[]⟩, [], 0⟩))) = partsL N 0 rowsR := by kernel_rfl
  rw [e]
  have hi := info27
  unfold Go.Program.builtSlice
  cases hp : Tryd.prog.info? 27 with
  | none => rw [hp] at hi; cases hi
  | some ie =>
    rw [hp] at hi
    have hi' : (ie.zero, ie.size, ie.bytes) = (some (.agg #[(.string ⟨#[]⟩), (.slice none 0 0), (.int .i64 0)]), 3, 48) := Option.some.inj hi
    have h1 : ie.zero = some (.agg #[(.string ⟨#[]⟩), (.slice none 0 0), (.int .i64 0)]) := congrArg (·.1) hi'
    have h2 : ie.size = 3 := congrArg (·.2.1) hi'
    simp only [h1, h2]
    rw [if_neg (by decide)]
    have := fill3 N rowsR 0 [] ((Array.range (90 * 3)).map ((Value.agg #[(.string ⟨#[]⟩), (.slice none 0 0), (.int .i64 0)]).cells[· % (Value.agg #[(.string ⟨#[]⟩), (.slice none 0 0), (.int .i64 0)]).cells.size]!)).toList rfl (by simp; kernel_rfl)
    rw [List.nil_append, List.nil_append, Array.toArray_toList] at this
    exact this
theorem rowsR_len : rowsR.length = 90 := by kernel_rfl
theorem rowsR_args : ∀ r ∈ rowsR, 0 < r.f1.length ∧ r.f1.length ≤ 100 := by decide +kernel
theorem ints_row {w : World} {base : Nat} {ok : Nat → Prop} {g : Nat} {xs : List Int} (hb : w.heap[g]? = some (.cells (xs.map (Value.int .i64)).toArray 3 (0, 0))) (hg : base ≤ g) (hok : ok g) (hl : xs.length ≤ 100) : (Kd.int .i64).R 3 w base ok (.slice (some ⟨g, 0, none⟩) xs.length xs.length) xs := by
  refine ⟨fun j hj => ?_, xs.map (Value.int .i64), ⟨?_, .inr ⟨g, xs.length, _, rfl, hg, hb, Nat.le_refl _, ?_, ?_, ?_⟩⟩, ?_⟩
  · have e : g = j := by simpa [Value.ownBlock] using hj
    rw [← e]
    exact hok
  · show _ = xs.length * 1
    simp
  · unfold maxLen
    omega
  · show _ = xs.length * 1
    simp
  · show List.take (xs.length * 1) _ = _
    rw [Nat.mul_one, List.take_of_length_le (by simp)]
  · refine ⟨by show _ = xs.length * 1; simp, fun j p hj => ?_⟩
    obtain ⟨hlt, rfl⟩ := List.getElem?_eq_some_iff.1 hj
    show _ = [Value.int .i64 xs[j]]
    rw [show j * (Kd.int .i64).sz = j from Nat.mul_one j, List.drop_eq_getElem_cons (by simpa using hlt), List.getElem_map]
    rfl
theorem walk_at {O : Array Oper} {Q : Exit → Act → World → Prop} {a : Act} {w : World} {l : List Oper} (h : l.take 180 = genR 0 rowsR) (k : wpList Tryd.prog O Q (genR 0 rowsR ++ l.drop 180) a w) : wpList Tryd.prog O Q l a w := by
  have e : genR 0 rowsR ++ l.drop 180 = l := by rw [← h, List.take_append_drop]
  exact (congrArg (fun x => wpList Tryd.prog O Q x a w) e).mp k
def partsR : Array (Nat × Operand) := ((List.range 90).map fun j => (j, Operand.tmp (2 * j + 2))).toArray
theorem tail_at {O : Array Oper} {Q : Exit → Act → World → Prop} {a : Act} {w w' : World} {l : List Oper} (oF oR : Oper) (e : l.drop 180 = [oF, oR]) (f1 : oF.op = .buildSlice 22 90 partsR) (f2 : oF.guard = none) (f3 : oF.dst = some 181) (g1 : oR.op = .assign (.tmp 181)) (g2 : oR.guard = none) (g3 : oR.dst = some 0)
    (ha : a.tmps.size = 182) (hd : a.defers = []) (hj : ∀ j (h : j < rowsR.length), a.tmps.getD (2 * j + 2) undef = rowV (w.heap.size + j) rowsR[j]) (hw : w'.heap.size = w.heap.size + 90)
    (k : ∀ a' : Act, a'.tmps.getD 0 undef = .slice (some ⟨w.heap.size + 90, 0, none⟩) 90 90 → a'.tmps.size = 182 → a'.defers = [] → Q .normal a' (w'.alloc (.cells (tabCs w.heap.size rowsR).toArray 27))) : wpList Tryd.prog O Q (l.drop 180) a w' := by
  rw [e]
  refine Go.Great.wpList_buildSliceTo f2 22 27 90 partsR f1 (w.heap.size + 90) hw (some 181) f3 Tryd.underlying22 (tabCs w.heap.size rowsR).toArray ?_ ?_
  · rw [← tab_built w.heap.size]
    congr 1
    unfold partsR
    rw [List.map_toArray, List.map_map]
    refine List.map_congr_left (fun j hj' => ?_)
    have hlt : j < 90 := List.mem_range.1 hj'
    have hlt' : j < rowsR.length := by rw [rowsR_len]; exact hlt
    show (j, a.tmps.getD (2 * j + 2) undef) = _
    rw [hj j hlt', List.getD_eq_getElem?_getD, List.getElem?_eq_getElem hlt']
    rfl
  · refine wpList_plain g2 fun K hK => ?_
    refine BigFrame.wp_assign (.tmp 181) g1 ?_
    refine hK _ _ ?_
    refine wpList_nil ?_
    have ev : (a.put (some 181) (.slice (some ⟨w.heap.size + 90, 0, none⟩) 90 90)).eval (.tmp 181) = .slice (some ⟨w.heap.size + 90, 0, none⟩) 90 90 := by
      show (a.put _ _).tmps.getD _ undef = _
      rw [put_at, if_pos ⟨rfl, by omega⟩]
    rw [ev, g3]
    refine k _ ?_ (by rw [put_size, put_size]; exact ha) hd
    rw [put_at, if_pos ⟨rfl, by rw [put_size]; omega⟩]
theorem tab_reps {w : World} {base : Nat} {ok : Nat → Prop} {f : Nat → Nat} : ∀ (l : List RRow) (N i : Nat), (∀ r ∈ l, 0 < r.f1.length ∧ r.f1.length ≤ 100) → base ≤ N → (∀ j, j < l.length → ok (N + j)) → (∀ j, f (N + j) = i + j) → (∀ j (h : j < l.length), w.heap[N + j]? = some (argO l[j])) → Reps ((Kd.tag f kRRow).M w base ok) 3 (l.zipIdx i) (tabCs N l)
  | [], N, i, _, _, _, _, _ => Reps.none _ _
  | r :: l, N, i, hr, hN, hok, hf, hb => by
    rw [List.zipIdx_cons]
    refine Reps.c3 ?_ (tab_reps l (N + 1) (i + 1) (fun x hx => hr x (by simp [hx])) (by omega) (fun j hj => ?_) (fun j => ?_) (fun j hj => ?_))
    · have h0 := hb 0 (by simp)
      exact k27_mkM w base _ r (ints_row h0 hN ⟨hok 0 (by simp), hf 0⟩ (hr r (by simp)).2)
    · have := hok (j + 1) (by simpa using hj)
      rw [show N + 1 + j = N + (j + 1) by omega]
      exact this
    · rw [show N + 1 + j = N + (j + 1) by omega, hf (j + 1)]
      omega
    · have := hb (j + 1) (by simpa using hj)
      rw [show N + 1 + j = N + (j + 1) by omega]
      exact this
theorem tabCs_len : ∀ (l : List RRow) (N : Nat), (tabCs N l).length = l.length * 3
  | [], _ => rfl
  | r :: l, N => by
    rw [tabCs, List.length_cons, List.length_cons, List.length_cons, tabCs_len l, List.length_cons]
    omega
set_option maxHeartbeats 4000000 in
set_option maxRecDepth 100000 in
theorem table_calls (w : World) : Calls Tryd.prog 6 #[] w fun e w' => ∃ v0_ : Value, e = .returned (v0_) ∧ Kd.S kRRow 27 w' w.heap.size (fun _ => True) v0_ rowsR ∧ Below w.heap.size w w' := by
  refine calls_of_wp Tryd.func6 rfl ?_
  refine wp_seq ?_
  refine wp_region_lit ?_
  refine wpList_plain rfl (fun K hK => ?_)
  refine BigFrame.wp_assign (.const (.slice none 0 0)) rfl ?_
  refine hK _ _ ?_
  refine wpList_nil ?_
  change Code.wp _ _ _ _ _
  refine wp_seq ?_
  refine wp_region_lit ?_
  refine walk_at (by kernel_rfl) ?_
  refine gen_walk w.heap.size rowsR 0 _ w rowsR_args ?size rfl (fun a' hs hd hj _ => ?_)
  case size => exact Nat.lt_of_lt_of_eq (show 2 * (0 + rowsR.length) < 182 by rw [rowsR_len]; decide) (Eq.symm (by kernel_rfl))
  refine tail_at (w := w) _ _ rfl (by kernel_rfl) rfl rfl rfl rfl rfl ?_ ?_ (fun j h => ?_) ?_ (fun a'' h0 hs0 hd0 => ?_)
  · rw [hs]
    kernel_rfl
  · rw [hd]
    rfl
  · have := hj j h
    rw [Nat.zero_add] at this
    exact this
  · rw [allocR_size, rowsR_len]
  · change Code.wp _ _ _ _ _
    refine wp_ret ?_
    refine bodyPost_ret (results_tmp rfl _ _ _) (by rw [hd0]) ?_
    have hsz := allocR_size rowsR w
    rw [rowsR_len] at hsz
    refine ⟨.slice (some ⟨w.heap.size + 90, 0, none⟩) 90 90, by rw [h0], ?_, ?_⟩
    · have hb := heap_alloc_new (allocR w rowsR) (.cells (tabCs w.heap.size rowsR).toArray 27)
      rw [hsz] at hb
      refine ⟨fun k => k - w.heap.size, fun _ _ => trivial, tabCs w.heap.size rowsR, ⟨?_, .inr ⟨w.heap.size + 90, 90, _, rfl, by omega, hb, Nat.le_refl _, by decide, ?_, ?_⟩⟩, ?_⟩
      · rw [tabCs_len, List.length_zipIdx]
        rfl
      · rw [List.size_toArray, tabCs_len]
        rfl
      · show List.take (rowsR.zipIdx.length * 3) _ = _
        rw [List.length_zipIdx]
        rw [List.take_of_length_le (by rw [tabCs_len]; exact Nat.le_refl _)]
      · refine tab_reps rowsR w.heap.size 0 rowsR_args (Nat.le_refl _) (fun j hj => ⟨trivial, ?_⟩) (fun j => by omega) (fun j hj => ?_)
        · rw [rowsR_len] at hj
          intro e
          have : w.heap.size + j = w.heap.size + 90 := by simpa [Value.ownBlock] using e
          omega
        · exact blk_alloc (allocR_at rowsR w j hj) _
    · exact below_alloc (allocR_below rowsR w w.heap.size (Nat.le_refl _)) _
end Go.Proofs.YtfgogfdbjbnlbaaDoor.PExpr
end
section
namespace Go.Proofs.YtfgogfdbjbnlbaaDoor.PExpr
open Go.RowKit Go.Proofs.YtfgogfdbjbnlbaaDoorW.PrintWords Go.Proofs.YtfgogfdbjbnlbaaDoorW.PrintLast Go.Proofs.YtfgogfdbjbnlbaaDoorW.PrintMore
set_option linter.unusedVariables false
set_option linter.unusedSimpArgs false
abbrev Row := S50
abbrev kRow := k50
def Tab (w : World) : Prop := Lib.TabIs Tryd.prog w "strings.asciiSpace" .u8 Lib.asciiSpaceTab
theorem Tab.below {w w' : World} (h : Tab w) (hb : Below w.heap.size w w') : Tab w' := by
  unfold Tab Lib.TabIs World.var? at h ⊢
  cases hg : Tryd.prog.globalNamed "strings.asciiSpace" with
  | none => rw [hg] at h; cases h
  | some g =>
    rw [hg] at h
    simp only [Option.bind_some] at h ⊢
    cases hc : w.heap[g]? with
    | none => rw [hc] at h; cases h
    | some o =>
      rw [hb.block g (Array.getElem?_eq_some_iff.1 hc).1]
      exact h
def tableL : List Row := (kind_table.f).getD []
theorem tableL_f : kind_table.f = some tableL := rfl
def kLets : List UInt8 := [98, 105, 110, 116, 100, 115, 122, 118]
def kLet (k : Int) : UInt8 := kLets.getD (k - 1).toNat 0
def kOk (k : Int) : Bool := decide (1 ≤ k) && decide (k ≤ 8)
def cutP (s b : ByteArray) : ByteArray × Bool := (strings_CutPrefix.f s b).getD (s, false)
theorem cutP_f (s b : ByteArray) : strings_CutPrefix.f s b = some (cutP s b) := by
  have key : ∃ p, strings_CutPrefix.f s b = some p := by
    unfold strings_CutPrefix.f stringslite_CutPrefix.f stringslite_HasPrefix.f
    by_cases h : (s.size : Int) ≥ (b.size : Int)
    · rw [if_pos h, if_pos (by omega), if_pos (by omega)]
      simp only [Option.bind_some]
      split
      all_goals exact ⟨_, rfl⟩
    · rw [if_neg h]
      exact ⟨_, rfl⟩
  obtain ⟨p, hp⟩ := key
  unfold cutP
  rw [hp]
  rfl
def rowHit (b : ByteArray) : List ByteArray → Option UInt8
  | [] => none
  | s :: r => if (cutP s b).2 = true ∧ (cutP s b).1.size = 1 then some ((cutP s b).1.data.toList.getD 0 0) else rowHit b r
def fieldsB (s : ByteArray) : List ByteArray := (Lib.fields s.data.toList).map fun l => ⟨l.toArray⟩
def tabHit (op b : ByteArray) : List Row → Option UInt8
  | [] => none
  | r :: l => if r.f0 = op then (match rowHit b (fieldsB r.f1) with | some c => some c | none => tabHit op b l) else tabHit op b l
def findR (op : ByteArray) : Option UInt8 → Int × Bool × Bool
  | some c => (Lib.indexByte kLets c + 1, op.toList == [103, 101, 110, 101, 114, 97, 116, 101, 95, 115, 101, 114, 105, 101, 115], true)
  | none => (0, false, false)
def findF (op : ByteArray) (l : List Int) : Int × Bool × Bool := if l.all kOk = true then findR op (tabHit op ⟨(l.map kLet).toArray⟩ tableL) else (0, false, false)
theorem kname_f (k : Int) : ∃ s, kind_Name.f k = some s ∧ (s = ⟨#[]⟩ ↔ kOk k = false) := by
  by_cases h0 : k < 1
  · refine ⟨⟨#[]⟩, by unfold kind_Name.f; rw [if_pos h0], fun _ => ?_, fun _ => rfl⟩
    unfold kOk
    simp
    omega
  by_cases h1 : k > 8
  · refine ⟨⟨#[]⟩, by unfold kind_Name.f; rw [if_neg h0, if_pos h1], fun _ => ?_, fun _ => rfl⟩
    unfold kOk
    simp
    omega
  have hk : k = 1 ∨ k = 2 ∨ k = 3 ∨ k = 4 ∨ k = 5 ∨ k = 6 ∨ k = 7 ∨ k = 8 := by omega
  rcases hk with rfl | rfl | rfl | rfl | rfl | rfl | rfl | rfl
  · exact ⟨(kind_Name.f 1).getD ⟨#[]⟩, by kernel_rfl, by decide +kernel⟩
  · exact ⟨(kind_Name.f 2).getD ⟨#[]⟩, by kernel_rfl, by decide +kernel⟩
  · exact ⟨(kind_Name.f 3).getD ⟨#[]⟩, by kernel_rfl, by decide +kernel⟩
  · exact ⟨(kind_Name.f 4).getD ⟨#[]⟩, by kernel_rfl, by decide +kernel⟩
  · exact ⟨(kind_Name.f 5).getD ⟨#[]⟩, by kernel_rfl, by decide +kernel⟩
  · exact ⟨(kind_Name.f 6).getD ⟨#[]⟩, by kernel_rfl, by decide +kernel⟩
  · exact ⟨(kind_Name.f 7).getD ⟨#[]⟩, by kernel_rfl, by decide +kernel⟩
  · exact ⟨(kind_Name.f 8).getD ⟨#[]⟩, by kernel_rfl, by decide +kernel⟩
theorem fields_ascii : ∀ r ∈ tableL, (∀ x ∈ r.f1.data.toList, x.toNat < 128) ∧ r.f1.size < 1000 ∧ (fieldsB r.f1).length < 1000 ∧ ∀ s ∈ fieldsB r.f1, ∀ x ∈ s.data.toList, x.toNat < 128 := by decide +kernel
theorem table_len : tableL.length = 32 := by kernel_rfl
theorem cut_low {s b : ByteArray} (h : ∀ x ∈ s.data.toList, x.toNat < 128) (h1 : (cutP s b).1.size = 1) : ((cutP s b).1.data.toList.getD 0 0).toNat < 128 := by
  have key : ∀ x ∈ (cutP s b).1.data.toList, x.toNat < 128 := by
    have hf := cutP_f s b
    revert hf
    generalize cutP s b = p
    intro hf x hx
    unfold strings_CutPrefix.f stringslite_CutPrefix.f at hf
    simp only [Option.bind_eq_some_iff] at hf
    obtain ⟨q, ⟨t, _, h3⟩, h4⟩ := hf
    split at h3
    · split at h3
      · split at h3
        · obtain rfl := Option.some.inj h3
          obtain rfl := Option.some.inj h4
          refine h x ?_
          simp only [ByteArray.data_extract, Array.toList_extract] at hx
          exact List.mem_of_mem_drop (List.mem_of_mem_take hx)
        · cases h3
      · cases h3
    · obtain rfl := Option.some.inj h3
      obtain rfl := Option.some.inj h4
      exact h x hx
  have hl : (cutP s b).1.data.toList.length = 1 := by simpa using h1
  cases hd : (cutP s b).1.data.toList with
  | nil => rw [hd] at hl; cases hl
  | cons x r => exact key x (by rw [hd]; simp)
end Go.Proofs.YtfgogfdbjbnlbaaDoor.PExpr
end
section
namespace Go.Proofs.YtfgogfdbjbnlbaaDoor.PExpr
open Go.RowKit Go.Proofs.YtfgogfdbjbnlbaaDoorW.PrintWords Go.Proofs.YtfgogfdbjbnlbaaDoorW.PrintLast Go.Proofs.YtfgogfdbjbnlbaaDoorW.PrintMore
set_option linter.unusedVariables false
set_option linter.unusedSimpArgs false
theorem strings_fields (s : ByteArray) (w : World) (hs : s.size < 1000) (ha : ∀ x ∈ s.data.toList, x.toNat < 128) (hT : Tab w) :
    Calls Tryd.prog 19 #[.string s] w fun e w' => e = .returned (.slice (some ⟨w.heap.size, 0, none⟩) (fieldsB s).length (fieldsB s).length) ∧ Below w.heap.size w w' ∧ (∃ cs, w'.heap[w.heap.size]? = some (.cells cs 9 (0, 0))) ∧ ∀ i (h : i < (fieldsB s).length), w'.cell? ⟨w.heap.size, i, none⟩ = some (.string (fieldsB s)[i]) := by
  refine (Tryd.strings_Fields s w (by omega) (fun j b hj => ha b (List.mem_of_getElem? hj)) hT).mono ?_
  rintro e w' ⟨rfl, rfl⟩
  refine ⟨by simp [fieldsB], below_alloc (Below.refl _ _) _, ⟨_, heap_alloc_new w _⟩, fun i h => ?_⟩
  rw [blk_cell (heap_alloc_new w _)]
  have hl : i < (Lib.fields s.data.toList).length := by simpa [fieldsB] using h
  simp [fieldsB, hl]
def FInvA (l : List Int) (w : World) (kq : Nat) (v18 : Value) (w' : World) : Prop :=
  ∃ i : Nat, v18 = .int .i64 i ∧ i ≤ l.length ∧ kq = l.length - i + 1 ∧ (l.take i).all kOk = true ∧ Lib.IsBuilderF 43 5 w.heap.size w.heap.size (Lib.byteCells ((l.take i).map kLet)) w' ∧ Below w.heap.size w w'
def FInvB (op b : ByteArray) (L : List Row) (w : World) (g : Nat) (oT : Obj) (kq : Nat) (v32 : Value) (w' : World) : Prop :=
  ∃ j : Nat, v32 = .int .i64 j ∧ j ≤ L.length ∧ kq = L.length - j + 1 ∧ tabHit op b (L.drop j) = tabHit op b L ∧ Lib.IsBuilderF 43 5 w.heap.size w.heap.size (Lib.byteCells b.data.toList) w' ∧ Below w.heap.size w w' ∧ w'.heap[g]? = some oT
def FInvC (b : ByteArray) (S : List ByteArray) (w : World) (g : Nat) (oT : Obj) (f : Nat) (oF : Obj) (kq : Nat) (v44 : Value) (w' : World) : Prop :=
  ∃ i : Nat, v44 = .int .i64 i ∧ i ≤ S.length ∧ kq = S.length - i + 1 ∧ rowHit b (S.drop i) = rowHit b S ∧ Lib.IsBuilderF 43 5 w.heap.size w.heap.size (Lib.byteCells b.data.toList) w' ∧ Below w.heap.size w w' ∧ w'.heap[g]? = some oT ∧ w'.heap[f]? = some oF
theorem let_bt (k : Int) (h : kOk k = true) : 0 ≤ k - 1 ∧ k - 1 < 8 ∧ IntKind.i64.wrap (k - 1) = k - 1 ∧ wrap64 (k - 1) = k - 1 := by
  unfold kOk at h
  simp at h
  rw [i64_w]
  unfold wrap64
  omega
theorem letter_cells (l : List Int) (i : Nat) (hi : i < l.length) : Lib.byteCells ((l.take i).map kLet) ++ [.int .u8 ((kLet (l[i])).toNat : Int)] = Lib.byteCells ((l.take (i + 1)).map kLet) := by
  unfold Lib.byteCells
  rw [List.take_succ_eq_append_getElem hi]
  simp only [List.map_append, List.map_cons, List.map_nil]
theorem fnext_a {l : List Int} {w w' : World} {i kq : Nat} {x : Int} (hi : i < l.length) (hok : (l.take i).all kOk = true) (hk : kOk l[i] = true) {y : Int} (hy : y = ((kLet l[i]).toNat : Int)) (hB : Lib.IsBuilderF 43 5 w.heap.size w.heap.size (Lib.byteCells ((l.take i).map kLet) ++ [.int .u8 y]) w') (hL : Below w.heap.size w w') (hx : x = ((i + 1 : Nat) : Int)) (hq : kq = l.length - (i + 1) + 1) : FInvA l w kq (.int .i64 x) w' := by
  subst hx hy
  rw [letter_cells l i hi] at hB
  refine ⟨i + 1, rfl, hi, hq, ?_, hB, hL⟩
  rw [List.take_succ_eq_append_getElem hi, List.all_append, hok]
  simpa using hk
theorem dec_k {i n : Nat} (h : i < n) : n - i = n - (i + 1) + 1 := by omega
theorem dec_m {i n k : Nat} (h : i < n) (hk : k = n - i + 1) : n - i < k := by omega
theorem table_row {w : World} {base : Nat} {v : Value} (h : Kd.R kRow 50 w base (fun _ => True) v tableL) : ∃ (ad : Addr) (c : Nat) (cur : Array Value), v = .slice (some ad) tableL.length c ∧ tableL.length ≤ c ∧ Kd.C kRow w (some ad) tableL.length tableL ∧ w.heap[ad.block]? = some (.cells cur 50 (0, 0)) ∧ base ≤ ad.block := by
  obtain ⟨A, c, hv, hc, hr⟩ := Kd.R_reads h
  obtain ⟨inner, ho⟩ := Kd.R_own h
  rcases ho.2 with ⟨_, h0⟩ | ⟨bs, cap, cur, q1, q2, q3, _⟩
  · exact absurd h0 (by rw [table_len]; decide)
  · rw [hv] at q1
    injection q1 with e1 e2 e3
    subst e1
    exact ⟨⟨bs, 0, none⟩, c, cur, hv, hc, hr, q3, q2⟩
theorem builder_lt {B b : Nat} {bs : List Value} {w : World} (h : Lib.IsBuilderF 43 5 B b bs w) : b < w.heap.size := by
  rcases h with ⟨_, u, hbk, _⟩ | ⟨_, u, hbk, _⟩
  · exact (Array.getElem?_eq_some_iff.1 hbk).1
  · exact (Array.getElem?_eq_some_iff.1 hbk).1
theorem byte0 (s : ByteArray) (h : 0 < s.size) : s[0]'h = s.data.toList.getD 0 0 := by
  have h' : 0 < s.data.toList.length := by simpa using h
  rw [List.getD_eq_getElem?_getD, List.getElem?_eq_getElem h']
  simp
  rfl
theorem let_at (k : Int) (h : kOk k = true) (hlt : k.toNat - 1 < (⟨#[98, 105, 110, 116, 100, 115, 122, 118]⟩ : ByteArray).size) : ((⟨#[98, 105, 110, 116, 100, 115, 122, 118]⟩ : ByteArray)[k.toNat - 1]'hlt).toNat = (kLet k).toNat := by
  have hk : k = 1 ∨ k = 2 ∨ k = 3 ∨ k = 4 ∨ k = 5 ∨ k = 6 ∨ k = 7 ∨ k = 8 := by
    unfold kOk at h
    simp at h
    omega
  rcases hk with rfl | rfl | rfl | rfl | rfl | rfl | rfl | rfl <;> rfl
theorem find_no (op : ByteArray) (l : List Int) (i : Nat) (hi : i < l.length) (h : kOk l[i] = false) : findF op l = (0, false, false) := by
  unfold findF
  rw [if_neg]
  intro q
  have := List.all_eq_true.1 q l[i] (List.getElem_mem hi)
  rw [h] at this
  cases this
theorem take_len (l : List Int) (i : Nat) (hl : l.length ≤ 17592186043904) (hi : i < l.length) : (Lib.byteCells ((l.take i).map kLet)).length + 1 ≤ 140737488355328 := by
  have : (Lib.byteCells ((l.take i).map kLet)).length ≤ i := by
    unfold Lib.byteCells
    simp
    omega
  omega
theorem wrap_i (i : Nat) (n : Nat) (h : i < n) (hn : n ≤ 17592186043904) : wrap64 ((i : Int) + 1) = ((i + 1 : Nat) : Int) ∧ IntKind.i64.wrap ((i : Int) + 1) = ((i + 1 : Nat) : Int) := by
  rw [i64_w]
  unfold wrap64
  omega
theorem str_calls (b : ByteArray) (B : Nat) (w : World) (h : Lib.IsBuilderF 43 5 B B (Lib.byteCells b.data.toList) w) (hB : B ≤ w.heap.size) :
    Calls Tryd.prog 21 #[.pointer (some ⟨B, 0, none⟩)] w fun e w' => e = .returned (.string b) ∧ Lib.IsBuilderF 43 5 B B (Lib.byteCells b.data.toList) w' ∧ Below B w w' ∧ Lib.OthersKept 5 (some B) w w' := by
  refine (Tryd.Builder_String_any_k B B b.data.toList w h hB).mono ?_
  rintro e w' ⟨rfl, h1, h2, h3⟩
  exact ⟨by simp, h1, h2, h3⟩
theorem rune_calls (c : UInt8) (w : World) (h : c.toNat < 128) : Calls Tryd.prog 22 #[.string ⟨#[98, 105, 110, 116, 100, 115, 122, 118]⟩, .int .i32 c.toNat] w fun e w' => e = .returned (.int .i64 (Lib.indexByte kLets c)) ∧ w' = w := by
  refine (Tryd.strings_IndexRune_ascii ⟨#[98, 105, 110, 116, 100, 115, 122, 118]⟩ (c.toNat : Int) w (by omega) (by omega)).mono ?_
  rintro e w' ⟨rfl, rfl⟩
  refine ⟨?_, rfl⟩
  have e : ((c.toNat : Int).toNat.toUInt8) = c := by
    rw [Int.toNat_natCast]
    simp
  rw [e]
  rfl
theorem index_small (c : UInt8) : IntKind.i64.wrap (Lib.indexByte kLets c + 1) = Lib.indexByte kLets c + 1 ∧ wrap64 (Lib.indexByte kLets c + 1) = Lib.indexByte kLets c + 1 := by
  have h : ∀ n : Fin 256, -1 ≤ Lib.indexByte kLets (UInt8.ofNat n.val) ∧ Lib.indexByte kLets (UInt8.ofNat n.val) ≤ 8 := by decide +kernel
  have := h ⟨c.toNat, UInt8.toNat_lt c⟩
  rw [show UInt8.ofNat c.toNat = c by simp] at this
  rw [i64_w]
  unfold wrap64
  omega
set_option maxHeartbeats 8000000 in
set_option maxRecDepth 100000 in
theorem find_calls (op : ByteArray) (A : Option Addr) (c : Nat) (l : List Int) (w : World) (hr : Kd.C (Kd.int .i64) w A l.length l) (hc : l.length ≤ c) (hl : l.length ≤ 17592186043904) (hT : Tab w) :
    Calls Tryd.prog 8 #[.string op, .slice A l.length c] w fun e w' => e = .returned (.tuple #[.int .i64 (findF op l).1, .bool (findF op l).2.1, .bool (findF op l).2.2]) ∧ Below w.heap.size w w' := by
  have HR := Aside0.mk hr
  have HT := Aside0.mk hT
  clear hr hT
  go_enter Tryd.func8, Tryd.ntmps8
  go_wp2_with (fail)
  go_loopg [18] (l.length + 1) (fun kq v18 w' => Aside0 (FInvA l w kq v18 w'))
  case atStart =>
    refine ⟨0, rfl, Nat.zero_le _, rfl, rfl, ?_, below_alloc (Below.refl _ _) _⟩
    exact Or.inl ⟨Nat.le_refl _, .slice none 0 0, heap_alloc_new w _, ⟨rfl, .inl ⟨rfl, rfl⟩⟩, by simp [Value.ownBlock]⟩
  case round =>
    obtain ⟨i, rfl, hi, hk, hok, hB, hbel⟩ := hrel.out
    clear hrel
    have HB := Aside0.mk hB
    have HBEL := Aside0.mk hbel
    have HOK := Aside0.mk hok
    have hsw := hbel.size
    clear hB hbel hok
    by_cases hlt : i < l.length
    · have c0 : decide ((i : Int) < (l.length : Int)) = true := decide_eq_true (Int.ofNat_lt.mpr hlt)
      have p0 : (0 ≤ (i : Int)) = True := eq_true (Int.natCast_nonneg i)
      have p1 : ((i : Int) < (l.length : Int)) = True := eq_true (Int.ofNat_lt.mpr hlt)
      have HC := Kd.C_below HR.out HBEL.out
      obtain ⟨ad, e0, hx⟩ := Kd.at_int HC (i : Int) (by omega) (by omega)
      subst e0
      rw [show rd l (i : Int) = l[i] from by unfold rd; rw [Int.toNat_natCast, List.getD_eq_getElem?_getD, List.getElem?_eq_getElem hlt]; rfl, Int.toNat_natCast] at hx
      have hki : kOk l[i] = true ∨ kOk l[i] = false := by cases kOk l[i] <;> simp
      have HL := Aside0.mk (show l[i] = l[i] from rfl)
      obtain ⟨s, hs, hs0⟩ := kname_f l[i]
      have HN := Aside0.mk (fun W => kind_Name.calls l[i] s W hs)
      clear HC
      generalize hki' : l[i] = k at hx hki hs hs0 HN
      have HKI := Aside0.mk hki'
      clear hki' HL
      rcases hki with hki | hki
      · have hne : s ≠ ⟨#[]⟩ := fun q => by
          have := hs0.1 q
          rw [hki] at this
          cases this
        obtain ⟨ne1, ne2⟩ := ne_lit hne
        have HKO := Aside0.mk hki
        clear hs hs0 hne
        obtain ⟨b1, b2, b3, b4⟩ := let_bt k hki
        have hby := fun h => let_at k hki h
        go_wp2_with (first | (go_at_call 10; refine (HN.out _).mono ?_; rintro e w1 ⟨rfl, hb1⟩; have HB1 := Aside0.mk (builder_below HB.out hb1); have HBEL1 := Aside0.mk (HBEL.out.trans (hb1.mono hsw)); clear hb1))
        refine (writeByte w.heap.size w.heap.size _ _ w1 HB1.out (take_len l i hl hlt) HBEL1.out.size).mono ?_
        rintro e w2 ⟨rfl, hB2, hb2, hok2⟩
        have HB2 := Aside0.mk hB2
        have HBEL2 := Aside0.mk (HBEL1.out.trans hb2)
        clear hB2 hb2 hok2
        obtain ⟨wi1, wi2⟩ := wrap_i i l.length hlt hl
        go_wp2_with (fail)
        go_roundg (l.length - i)
        case measure => exact dec_m hlt hk
        case rel =>
          have e := HKI.out
          exact ⟨fnext_a hlt HOK.out (by rw [e]; exact HKO.out) (by rw [e]) HB2.out HBEL2.out (by first | with_reducible rfl | (simp; done)) (dec_k hlt)⟩
      · obtain rfl := hs0.2 hki
        clear hs hs0
        have HK := Aside0.mk (find_no op l i hlt (by rw [HKI.out]; exact hki))
        go_wp2_with (first | (go_at_call 10; refine (HN.out _).mono ?_; rintro e w1 ⟨rfl, hb1⟩; have HBEL1 := Aside0.mk (HBEL.out.trans (hb1.mono hsw)); clear hb1))
        ((try simp only [Exit.inBlock, Exit.then]); refine bodyPost_ret (by simp [results, Tryd.results8, go_sem, *]; try rfl) rfl ?_)
        rw [HK.out]
        exact ⟨rfl, HBEL1.out⟩
    · have c0 : decide ((i : Int) < (l.length : Int)) = false := decide_eq_false (fun q => hlt (Int.ofNat_lt.mp q))
      have HALL := Aside0.mk (show l.all kOk = true by
        have := HOK.out
        rw [List.take_of_length_le (Nat.le_of_not_lt hlt)] at this
        exact this)
      have HBB := Aside0.mk (show Lib.IsBuilderF 43 5 w.heap.size w.heap.size (Lib.byteCells (⟨(l.map kLet).toArray⟩ : ByteArray).data.toList) wr by
        have := HB.out
        rw [List.take_of_length_le (Nat.le_of_not_lt hlt)] at this
        exact this)
      have HF := Aside0.mk (show findF op l = findR op (tabHit op ⟨(l.map kLet).toArray⟩ tableL) by
        unfold findF
        rw [if_pos HALL.out])
      have HTT := Aside0.mk (fun W => kind_table.calls tableL W tableL_f)
      clear HOK HALL HR
      have hwl : w.heap.size < wr.heap.size := builder_lt HB.out
      clear HB
      generalize hbg : (⟨(l.map kLet).toArray⟩ : ByteArray) = b at HBB HF
      clear hbg
      go_wp2_with (first | (go_at_call 18; refine (HTT.out _).mono ?_; rintro e w1 ⟨v, rfl, ho, hb1⟩; obtain ⟨ad, cT, cur, hv, hlT, hrT, htT, hbT⟩ := table_row ho; subst hv; have HB1 := Aside0.mk (builder_below HBB.out hb1); have HBEL1 := Aside0.mk (HBEL.out.trans (hb1.mono hsw)); have HRT := Aside0.mk hrT; have HTO := Aside0.mk htT; have hbT' : w.heap.size < ad.block := Nat.lt_of_lt_of_le hwl hbT; clear ho hb1 hrT hlT htT))
      have hgs : ad.block < w1.heap.size := (Array.getElem?_eq_some_iff.1 HTO.out).1
      clear HBB HTT HBEL hsw
      go_loopg [32] (tableL.length + 1) (fun kq v32 w' => Aside0 (FInvB op b tableL w ad.block (.cells cur 50 (0, 0)) kq v32 w'))
      case atStart => exact ⟨⟨0, rfl, Nat.zero_le _, rfl, rfl, HB1.out, HBEL1.out, HTO.out⟩⟩
      case round =>
        obtain ⟨j, rfl, hj, hkj, htab, hB2, hbel2, ht2⟩ := hrel.out
        clear hrel HB1
        have HB2 := Aside0.mk hB2
        have HBEL2 := Aside0.mk hbel2
        have HTAB := Aside0.mk htab
        have HT2 := Aside0.mk ht2
        have hs2 := hbel2.size
        have hgl := blk_lt ht2
        clear hB2 hbel2 htab ht2
        by_cases hjt : j < tableL.length
        · have d0 : decide ((j : Int) < (tableL.length : Int)) = true := decide_eq_true (Int.ofNat_lt.mpr hjt)
          have p0 : (0 ≤ (j : Int)) = True := eq_true (Int.natCast_nonneg j)
          have p1 : ((j : Int) < (tableL.length : Int)) = True := eq_true (Int.ofNat_lt.mpr hjt)
          obtain ⟨ad', e0, hx0, hx1⟩ := at_T50 HRT.out (j : Int) (by omega) (by omega)
          obtain rfl := Option.some.inj e0
          clear e0
          have hrd : rd_T50 tableL (j : Int) = tableL[j] := by
            unfold rd_T50
            rw [Int.toNat_natCast, List.getD_eq_getElem?_getD, List.getElem?_eq_getElem hjt]
            rfl
          rw [hrd, Int.toNat_natCast] at hx0 hx1
          have hmv : ∀ (p : Addr), p.block = ad.block → wr.cell? p = w1.cell? p := fun p hp => by
            unfold World.cell?
            rw [hp, HT2.out, HTO.out]
          rw [← hmv _ (add_block _ _)] at hx0
          rw [← hmv _ (show (⟨(ad.add (j * 2)).block, (ad.add (j * 2)).off + 1, none⟩ : Addr).block = ad.block from add_block _ _)] at hx1
          clear hmv
          obtain ⟨ha1, ha2, ha3, ha4⟩ := fields_ascii tableL[j] (List.getElem_mem hjt)
          have HSTEP := Aside0.mk (show tabHit op b (tableL.drop j) = (if tableL[j].f0 = op then (match rowHit b (fieldsB tableL[j].f1) with | some c => some c | none => tabHit op b (tableL.drop (j + 1))) else tabHit op b (tableL.drop (j + 1))) by
            rw [List.drop_eq_getElem_cons hjt, tabHit] <;> rfl)
          have HA1 := Aside0.mk ha1
          have HA4 := Aside0.mk ha4
          clear hrd ha1 ha4
          generalize tableL[j] = r at hx0 hx1 HSTEP HA1 HA4 ha2 ha3
          obtain ⟨wi1, wi2⟩ := wrap_i j tableL.length hjt (by rw [table_len]; decide)
          by_cases hop : r.f0 = op
          · subst hop
            have HTW := Aside0.mk (HT.out.below HBEL2.out)
            go_wp2_with (fail)
            refine (strings_fields r.f1 (wr.alloc (.cells #[.string r.f0, .string r.f1] 50)) ha2 HA1.out (HTW.out.below (below_alloc (Below.refl _ _) _))).mono ?_
            rintro e w3 ⟨rfl, hb3, ⟨csF, ho3⟩, hc3⟩
            have HB3 := Aside0.mk (builder_below (Lib.IsBuilderF.alloc HB2.out _) hb3)
            have HT3 := Aside0.mk (blk_below (blk_alloc HT2.out (.cells #[.string r.f0, .string r.f1] 50)) hb3)
            have HBEL3 := Aside0.mk (HBEL2.out.trans ((below_alloc (Below.refl wr.heap.size wr) (.cells #[.string r.f0, .string r.f1] 50)).trans (hb3.mono (by simp)) |>.mono hs2))
            have HC3 := Aside0.mk hc3
            have HO3 := Aside0.mk ho3
            have hbw : (wr.alloc (.cells #[.string r.f0, .string r.f1] 50)).heap.size ≠ w.heap.size := by rw [World.size_alloc]; omega
            clear hb3 hc3 HB2 HBEL2 ho3 HTW HT2
            generalize (wr.alloc (.cells #[.string r.f0, .string r.f1] 50)).heap.size = bF at HC3 HO3 hbw ⊢
            go_wp2_with (fail)
            generalize fieldsB r.f1 = S at HC3 HSTEP HA4 ha3 ⊢
            go_loopg [44] (S.length + 1) (fun kq v44 w' => Aside0 (FInvC b S w ad.block (.cells cur 50 (0, 0)) bF (.cells csF 9 (0, 0)) kq v44 w'))
            case atStart => exact ⟨⟨0, rfl, Nat.zero_le _, rfl, rfl, HB3.out, HBEL3.out, HT3.out, HO3.out⟩⟩
            case round =>
              obtain ⟨n, rfl, hn, hkn, hrow, hB4, hbel4, ht4, ho4⟩ := hrel.out
              clear hrel HB3 HBEL3 HT3
              have HB4 := Aside0.mk hB4
              have HBEL4 := Aside0.mk hbel4
              have HROW := Aside0.mk hrow
              have HT4 := Aside0.mk ht4
              have HO4 := Aside0.mk ho4
              have hs4 := hbel4.size
              clear hB4 hrow hbel4 ht4 ho4
              by_cases hnl : n < S.length
              · have f0 : decide ((n : Int) < (S.length : Int)) = true := decide_eq_true (Int.ofNat_lt.mpr hnl)
                have p0 : (0 ≤ (n : Int)) = True := eq_true (Int.natCast_nonneg n)
                have p1 : ((n : Int) < (S.length : Int)) = True := eq_true (Int.ofNat_lt.mpr hnl)
                have hcell : wr.cell? ⟨bF, n, none⟩ = some (.string S[n]) := by
                  rw [← HC3.out n hnl]
                  unfold World.cell?
                  rw [HO4.out, HO3.out]
                obtain ⟨wi1, wi2⟩ := wrap_i n S.length hnl (by omega)
                have HST := Aside0.mk (show rowHit b (S.drop n) = (if (cutP S[n] b).2 = true ∧ (cutP S[n] b).1.size = 1 then some ((cutP S[n] b).1.data.toList.getD 0 0) else rowHit b (S.drop (n + 1))) by
                  rw [List.drop_eq_getElem_cons hnl, rowHit])
                have HLOW := Aside0.mk (cut_low (b := b) (HA4.out S[n] (List.getElem_mem hnl)))
                generalize S[n] = s at hcell HST HLOW
                have HCUT := Aside0.mk (fun W => strings_CutPrefix.calls s b (cutP s b).1 (cutP s b).2 W (cutP_f s b))
                generalize cutP s b = p at HST HLOW HCUT
                obtain ⟨rest, ok⟩ := p
                go_wp2_with (fail)
                refine (str_calls b w.heap.size _ HB4.out hs4).mono ?_
                rintro e w5 ⟨rfl, hB5, hb5, hok5⟩
                have HB5 := Aside0.mk hB5
                have HBEL5 := Aside0.mk (HBEL4.out.trans hb5)
                have HT5 := Aside0.mk (hok5 ad.block _ HT4.out (by simp; omega) (by intro c fz e; injection e with _ e _; cases e))
                have HO5 := Aside0.mk (hok5 bF _ HO4.out (by simpa using hbw) (by intro c fz e; injection e with _ e _; cases e))
                clear hB5 hb5 hok5 hcell
                go_wp2_with (fail)
                refine (HCUT.out _).mono ?_
                rintro e w6 ⟨rfl, ⟨m6, rfl⟩⟩
                have HB6 := Aside0.mk (builder_below HB5.out (below_drewN' (Below.refl _ _) m6))
                have HBEL6 := Aside0.mk (pw_below_drewN HBEL5.out m6)
                have HT6 := Aside0.mk (show (w5.drewN m6).heap[ad.block]? = _ from HT5.out)
                have HO6 := Aside0.mk (show (w5.drewN m6).heap[bF]? = _ from HO5.out)
                clear HB5 HBEL5 HT5 HO5 HCUT HB4 HBEL4 HT4 HO4
                generalize w5.drewN m6 = w7 at HB6 HBEL6 HT6 HO6 ⊢
                by_cases hhit : ok = true ∧ rest.size = 1
                · obtain ⟨rfl, hsz⟩ := hhit
                  have hz1 : ((rest.size : Int) == 1) = true := by rw [hsz]; rfl
                  have hz2 : (rest.size == 1) = true := by rw [hsz]; rfl
                  have hz3 : (0 < rest.size) = True := eq_true (by rw [hsz]; decide)
                  have hz4 : ((0 : Int) < (rest.size : Int)) = True := eq_true (by rw [hsz]; decide)
                  have hz6 := HLOW.out hsz
                  have HRES := Aside0.mk (show tabHit r.f0 b tableL = some (rest.data.toList.getD 0 0) by
                    rw [← HTAB.out, HSTEP.out, if_pos trivial, ← HROW.out, HST.out, if_pos ⟨rfl, hsz⟩])
                  have hbyte : ∀ h, rest[0]'h = rest.data.toList.getD 0 0 := fun h => byte0 rest h
                  generalize rest.data.toList.getD 0 0 = cb at hz6 HRES hbyte
                  have hw32 : wrap32 ((cb.toNat : Nat) : Int) = (cb.toNat : Int) := by
                    unfold wrap32
                    omega
                  obtain ⟨ix1, ix2⟩ := index_small cb
                  have HRES2 := Aside0.mk (show findF r.f0 l = (Lib.indexByte kLets cb + 1, r.f0.toList == [103, 101, 110, 101, 114, 97, 116, 101, 95, 115, 101, 114, 105, 101, 115], true) by
                    rw [HF.out, HRES.out]
                    rfl)
                  have HRUNE := Aside0.mk (fun W => rune_calls cb W hz6)
                  clear HRES HF HST HLOW HSTEP HTAB HROW
                  go_wp2_with (fail)
                  refine (HRUNE.out _).mono ?_
                  rintro e w8 ⟨rfl, rfl⟩
                  go_wp2_with (fail)
                  ((try simp only [Exit.inBlock, Exit.then]); refine bodyPost_ret (by simp [results, Tryd.results8, go_sem, *]; try rfl) rfl ?_)
                  rw [HRES2.out]
                  exact ⟨rfl, HBEL6.out⟩
                · have HROW2 := Aside0.mk (show rowHit b (S.drop (n + 1)) = rowHit b S by
                    rw [← HROW.out, HST.out, if_neg hhit])
                  have hno : ok = false ∨ (ok = true ∧ ((rest.size : Int) == 1) = false ∧ (rest.size == 1) = false) := by
                    cases ok with
                    | false => exact .inl rfl
                    | true =>
                      have h1 : ¬ rest.size = 1 := fun q => hhit ⟨rfl, q⟩
                      exact .inr ⟨rfl, beq_eq_false_iff_ne.mpr (by omega), beq_eq_false_iff_ne.mpr h1⟩
                  clear HST HLOW hhit
                  rcases hno with rfl | ⟨rfl, hz1, hz2⟩
                  all_goals
                    go_wp2_with (fail)
                    go_roundg (S.length - n)
                    case measure => exact dec_m hnl hkn
                    case rel => exact ⟨⟨n + 1, by first | with_reducible rfl | (simp; done), hnl, dec_k hnl, HROW2.out, HB6.out, HBEL6.out, HT6.out, HO6.out⟩⟩
              · have f0 : decide ((n : Int) < (S.length : Int)) = false := decide_eq_false (fun q => hnl (Int.ofNat_lt.mp q))
                have HTAB2 := Aside0.mk (show tabHit r.f0 b (tableL.drop (j + 1)) = tabHit r.f0 b tableL by
                  have h1 := HROW.out
                  rw [List.drop_eq_nil_of_le (Nat.le_of_not_lt hnl)] at h1
                  rw [← HTAB.out, HSTEP.out, if_pos trivial, ← h1]
                  rfl)
                go_wp2_with (fail)
                go_roundg (tableL.length - j)
                case measure => exact dec_m hjt hkj
                case rel => exact ⟨⟨j + 1, by first | with_reducible rfl | (simp; done), hjt, dec_k hjt, HTAB2.out, HB4.out, HBEL4.out, HT4.out⟩⟩
          · have ne1 : (r.f0.toList == op.toList) = false := by
              have := (fun q => hop ((toList_iff r.f0 op).1 q) : ¬ r.f0.toList = op.toList)
              simpa using this
            have HTAB2 := Aside0.mk (show tabHit op b (tableL.drop (j + 1)) = tabHit op b tableL by
              rw [← HTAB.out, HSTEP.out, if_neg hop])
            go_wp2_with (fail)
            go_roundg (tableL.length - j)
            case measure => exact dec_m hjt hkj
            case rel => exact ⟨⟨j + 1, by first | with_reducible rfl | (simp; done), hjt, dec_k hjt, HTAB2.out, Lib.IsBuilderF.alloc HB2.out _, below_alloc HBEL2.out _, blk_alloc HT2.out _⟩⟩
        · have d0 : decide ((j : Int) < (tableL.length : Int)) = false := decide_eq_false (fun q => hjt (Int.ofNat_lt.mp q))
          have HN := Aside0.mk (show findF op l = (0, false, false) by
            have := HTAB.out
            rw [List.drop_eq_nil_of_le (Nat.le_of_not_lt hjt)] at this
            rw [HF.out, ← this]
            rfl)
          go_wp2_with (fail)
          ((try simp only [Exit.inBlock, Exit.then]); refine bodyPost_ret (by simp [results, Tryd.results8, go_sem, *]; try rfl) rfl ?_)
          rw [HN.out]
          exact ⟨rfl, HBEL2.out⟩
end Go.Proofs.YtfgogfdbjbnlbaaDoor.PExpr
end
section
namespace Go.Proofs.YtfgogfdbjbnlbaaDoor.PExpr
open Go.RowKit Go.Proofs.YtfgogfdbjbnlbaaDoorW.PrintWords Go.Proofs.YtfgogfdbjbnlbaaDoorW.PrintLast Go.Proofs.YtfgogfdbjbnlbaaDoorW.PrintMore
attribute [local go_sem] max2_int min2_int max_two min_two max_three min_three max_four min_four   -- for this text's walks alone
set_option linter.unusedVariables false
set_option linter.unusedSimpArgs false
def kind_operation.f (a0_0 : Int) (a0_1 : ByteArray) (l0_2 : List (S58)) (a0_3 : Int) : Option (ByteArray) := if a0_0 = 6 then (some (⟨#[110, 101, 103]⟩ : ByteArray)) else (if a0_0 = 7 then (some (⟨#[110, 111, 116]⟩ : ByteArray)) else (if a0_0 = 10 then (if 2 + a0_1.size ≤ 9223372036854775807 then (some ((⟨#[58, 58]⟩ : ByteArray) ++ a0_1)) else (none)) else (some a0_1)))
set_option maxHeartbeats 8000000 in
set_option maxRecDepth 100000 in
theorem kind_operation.calls (a0_0 : Int) (a0_1 : ByteArray) (A0_2 : Option Addr) (c0_2 : Nat) (l0_2 : List (S58)) (a0_3 : Int) (r : ByteArray) (w : World) (hr0_2 : Kd.C k58 w A0_2 l0_2.length l0_2) (hc0_2 : l0_2.length ≤ c0_2) (h : kind_operation.f a0_0 a0_1 l0_2 a0_3 = some r) :
    Calls Tryd.prog 60 #[.agg #[.int .i64 a0_0, .string a0_1, .slice A0_2 l0_2.length c0_2, .int .i64 a0_3]] w fun e w' => e = .returned (.string r) ∧ Below w.heap.size w w' := by
  have hu58 := Tryd.underlying58
  have HR0_2 := Aside0.mk hr0_2
  have HC0_2 := Aside0.mk hc0_2
  clear hr0_2 hc0_2
  have HB := Aside0.mk (Below.refl w.heap.size w)
  have H : (if a0_0 = 6 then (some (⟨#[110, 101, 103]⟩ : ByteArray)) else (if a0_0 = 7 then (some (⟨#[110, 111, 116]⟩ : ByteArray)) else (if a0_0 = 10 then (if 2 + a0_1.size ≤ 9223372036854775807 then (some ((⟨#[58, 58]⟩ : ByteArray) ++ a0_1)) else (none)) else (some a0_1)))) = some r := h
  clear h
  by_cases c2 : a0_0 = 6
  · rw [if_pos c2] at H
    have c2b0 : (a0_0 == 6) = true := beq_iff_eq.mpr c2
    have c2b1 : (a0_0 != 6) = false := bne_eq_false_iff_eq.mpr c2
    clear c2
    obtain rfl := Option.some.inj H
    go_enter Tryd.func60, Tryd.ntmps60
    go_wp2_with (first | ((with_reducible refine gate_dst (N := 1) rfl ?_); refine box_event ?hg (N := 1) ?hd (cs := #[.int .i64 a0_0, .string a0_1, .slice A0_2 l0_2.length c0_2, .int .i64 a0_3]) (t := 58) ?hr ?_; (case hd => rfl); (case hg => rfl); (case hr => first | (go_simp; done) | (go_simp; rfl)); intro gb148 hg w3 hbox hb; have n0_ := Aside0.mk (below_step (by repeat (first | (with_reducible first | exact HB.out | apply below_alloc | apply pw_below_drewN | apply below_drew1) | exact HB.out)) hb); have n1_ := Aside0.mk (hbox); have n2_ := Aside0.mk ((by rw [hg]; exact (below_size (by repeat (first | (with_reducible first | exact HB.out | apply below_alloc | apply pw_below_drewN | apply below_drew1) | exact HB.out))) : w.heap.size ≤ gb148)); have n3_ := Aside0.mk ((by rw [hg]; exact (below_size (by repeat (first | (with_reducible first | exact HB.out | apply below_alloc | apply pw_below_drewN | apply below_drew1) | exact HB.out))) : w.heap.size ≤ gb148)); clear HB; have HB := n0_; have BK148 := n1_; have GW148 := n2_; have GE148 := n3_; clear n0_ n1_ n2_ n3_; clear hb hbox hg; have hcz4_0 : w3.cell? ⟨gb148, 0, none⟩ = some (.int .i64 a0_0) := (blk_cell BK148.out 0).trans rfl; have hcz4_1 : w3.cell? ⟨gb148, 1, none⟩ = some (.string a0_1) := (blk_cell BK148.out 1).trans rfl; have hcz4_2 : w3.cell? ⟨gb148, 2, none⟩ = some (.slice A0_2 l0_2.length c0_2) := (blk_cell BK148.out 2).trans rfl; have hcz4_3 : w3.cell? ⟨gb148, 3, none⟩ = some (.int .i64 a0_3) := (blk_cell BK148.out 3).trans rfl; have hfz4_0 := blk_frozen BK148.out 0; have hfz4_1 := blk_frozen BK148.out 1; have hfz4_2 := blk_frozen BK148.out 2; have hfz4_3 := blk_frozen BK148.out 3))
    go_ret
    exact ⟨by first | rfl | (simp [errW_none, errW_some] <;> rfl) | (simp [*, errW_none, errW_some] <;> rfl), by repeat (first | (with_reducible first | exact HB.out | apply below_alloc | apply pw_below_drewN | apply below_drew1 | refine below_set ?_ GE148.out) | exact HB.out)⟩
  · rw [if_neg c2] at H
    have c2b0 : (a0_0 == 6) = false := beq_eq_false_iff_ne.mpr c2
    have c2b1 : (a0_0 != 6) = true := bne_iff_ne.mpr c2
    by_cases c5 : a0_0 = 7
    · rw [if_pos c5] at H
      have c5b0 : (a0_0 == 7) = true := beq_iff_eq.mpr c5
      have c5b1 : (a0_0 != 7) = false := bne_eq_false_iff_eq.mpr c5
      clear c5
      obtain rfl := Option.some.inj H
      go_enter Tryd.func60, Tryd.ntmps60
      go_wp2_with (first | ((with_reducible refine gate_dst (N := 1) rfl ?_); refine box_event ?hg (N := 1) ?hd (cs := #[.int .i64 a0_0, .string a0_1, .slice A0_2 l0_2.length c0_2, .int .i64 a0_3]) (t := 58) ?hr ?_; (case hd => rfl); (case hg => rfl); (case hr => first | (go_simp; done) | (go_simp; rfl)); intro gb148 hg w6 hbox hb; have n0_ := Aside0.mk (below_step (by repeat (first | (with_reducible first | exact HB.out | apply below_alloc | apply pw_below_drewN | apply below_drew1) | exact HB.out)) hb); have n1_ := Aside0.mk (hbox); have n2_ := Aside0.mk ((by rw [hg]; exact (below_size (by repeat (first | (with_reducible first | exact HB.out | apply below_alloc | apply pw_below_drewN | apply below_drew1) | exact HB.out))) : w.heap.size ≤ gb148)); have n3_ := Aside0.mk ((by rw [hg]; exact (below_size (by repeat (first | (with_reducible first | exact HB.out | apply below_alloc | apply pw_below_drewN | apply below_drew1) | exact HB.out))) : w.heap.size ≤ gb148)); clear HB; have HB := n0_; have BK148 := n1_; have GW148 := n2_; have GE148 := n3_; clear n0_ n1_ n2_ n3_; clear hb hbox hg; have hcz7_0 : w6.cell? ⟨gb148, 0, none⟩ = some (.int .i64 a0_0) := (blk_cell BK148.out 0).trans rfl; have hcz7_1 : w6.cell? ⟨gb148, 1, none⟩ = some (.string a0_1) := (blk_cell BK148.out 1).trans rfl; have hcz7_2 : w6.cell? ⟨gb148, 2, none⟩ = some (.slice A0_2 l0_2.length c0_2) := (blk_cell BK148.out 2).trans rfl; have hcz7_3 : w6.cell? ⟨gb148, 3, none⟩ = some (.int .i64 a0_3) := (blk_cell BK148.out 3).trans rfl; have hfz7_0 := blk_frozen BK148.out 0; have hfz7_1 := blk_frozen BK148.out 1; have hfz7_2 := blk_frozen BK148.out 2; have hfz7_3 := blk_frozen BK148.out 3))
      go_ret
      exact ⟨by first | rfl | (simp [errW_none, errW_some] <;> rfl) | (simp [*, errW_none, errW_some] <;> rfl), by repeat (first | (with_reducible first | exact HB.out | apply below_alloc | apply pw_below_drewN | apply below_drew1 | refine below_set ?_ GE148.out) | exact HB.out)⟩
    · rw [if_neg c5] at H
      have c5b0 : (a0_0 == 7) = false := beq_eq_false_iff_ne.mpr c5
      have c5b1 : (a0_0 != 7) = true := bne_iff_ne.mpr c5
      by_cases c8 : a0_0 = 10
      · rw [if_pos c8] at H
        have c8b0 : (a0_0 == 10) = true := beq_iff_eq.mpr c8
        have c8b1 : (a0_0 != 10) = false := bne_eq_false_iff_eq.mpr c8
        clear c8
        by_cases c9 : 2 + a0_1.size ≤ 9223372036854775807
        · rw [if_pos c9] at H
          have c9b0 := eq_true c9
          have c9b1 : decide (2 + a0_1.size ≤ 9223372036854775807) = true := decide_eq_true c9
          try have c9b2 : (9223372036854775807 < 2 + a0_1.size) = False := eq_false (Nat.not_lt.2 c9)
          obtain rfl := Option.some.inj H
          go_enter Tryd.func60, Tryd.ntmps60
          go_wp2_with (first | ((with_reducible refine gate_dst (N := 1) rfl ?_); refine box_event ?hg (N := 1) ?hd (cs := #[.int .i64 a0_0, .string a0_1, .slice A0_2 l0_2.length c0_2, .int .i64 a0_3]) (t := 58) ?hr ?_; (case hd => rfl); (case hg => rfl); (case hr => first | (go_simp; done) | (go_simp; rfl)); intro gb148 hg w10 hbox hb; have n0_ := Aside0.mk (below_step (by repeat (first | (with_reducible first | exact HB.out | apply below_alloc | apply pw_below_drewN | apply below_drew1) | exact HB.out)) hb); have n1_ := Aside0.mk (hbox); have n2_ := Aside0.mk ((by rw [hg]; exact (below_size (by repeat (first | (with_reducible first | exact HB.out | apply below_alloc | apply pw_below_drewN | apply below_drew1) | exact HB.out))) : w.heap.size ≤ gb148)); have n3_ := Aside0.mk ((by rw [hg]; exact (below_size (by repeat (first | (with_reducible first | exact HB.out | apply below_alloc | apply pw_below_drewN | apply below_drew1) | exact HB.out))) : w.heap.size ≤ gb148)); clear HB; have HB := n0_; have BK148 := n1_; have GW148 := n2_; have GE148 := n3_; clear n0_ n1_ n2_ n3_; clear hb hbox hg; have hcz11_0 : w10.cell? ⟨gb148, 0, none⟩ = some (.int .i64 a0_0) := (blk_cell BK148.out 0).trans rfl; have hcz11_1 : w10.cell? ⟨gb148, 1, none⟩ = some (.string a0_1) := (blk_cell BK148.out 1).trans rfl; have hcz11_2 : w10.cell? ⟨gb148, 2, none⟩ = some (.slice A0_2 l0_2.length c0_2) := (blk_cell BK148.out 2).trans rfl; have hcz11_3 : w10.cell? ⟨gb148, 3, none⟩ = some (.int .i64 a0_3) := (blk_cell BK148.out 3).trans rfl; have hfz11_0 := blk_frozen BK148.out 0; have hfz11_1 := blk_frozen BK148.out 1; have hfz11_2 := blk_frozen BK148.out 2; have hfz11_3 := blk_frozen BK148.out 3))
          go_ret
          exact ⟨by first | rfl | (simp [errW_none, errW_some] <;> rfl) | (simp [*, errW_none, errW_some] <;> rfl), by repeat (first | (with_reducible first | exact HB.out | apply below_alloc | apply pw_below_drewN | apply below_drew1 | refine below_set ?_ GE148.out) | exact HB.out)⟩
        · rw [if_neg c9] at H
          exact absurd H (by simp)
      · rw [if_neg c8] at H
        have c8b0 : (a0_0 == 10) = false := beq_eq_false_iff_ne.mpr c8
        have c8b1 : (a0_0 != 10) = true := bne_iff_ne.mpr c8
        obtain rfl := Option.some.inj H
        go_enter Tryd.func60, Tryd.ntmps60
        go_wp2_with (first | ((with_reducible refine gate_dst (N := 1) rfl ?_); refine box_event ?hg (N := 1) ?hd (cs := #[.int .i64 a0_0, .string a0_1, .slice A0_2 l0_2.length c0_2, .int .i64 a0_3]) (t := 58) ?hr ?_; (case hd => rfl); (case hg => rfl); (case hr => first | (go_simp; done) | (go_simp; rfl)); intro gb148 hg w12 hbox hb; have n0_ := Aside0.mk (below_step (by repeat (first | (with_reducible first | exact HB.out | apply below_alloc | apply pw_below_drewN | apply below_drew1) | exact HB.out)) hb); have n1_ := Aside0.mk (hbox); have n2_ := Aside0.mk ((by rw [hg]; exact (below_size (by repeat (first | (with_reducible first | exact HB.out | apply below_alloc | apply pw_below_drewN | apply below_drew1) | exact HB.out))) : w.heap.size ≤ gb148)); have n3_ := Aside0.mk ((by rw [hg]; exact (below_size (by repeat (first | (with_reducible first | exact HB.out | apply below_alloc | apply pw_below_drewN | apply below_drew1) | exact HB.out))) : w.heap.size ≤ gb148)); clear HB; have HB := n0_; have BK148 := n1_; have GW148 := n2_; have GE148 := n3_; clear n0_ n1_ n2_ n3_; clear hb hbox hg; have hcz13_0 : w12.cell? ⟨gb148, 0, none⟩ = some (.int .i64 a0_0) := (blk_cell BK148.out 0).trans rfl; have hcz13_1 : w12.cell? ⟨gb148, 1, none⟩ = some (.string a0_1) := (blk_cell BK148.out 1).trans rfl; have hcz13_2 : w12.cell? ⟨gb148, 2, none⟩ = some (.slice A0_2 l0_2.length c0_2) := (blk_cell BK148.out 2).trans rfl; have hcz13_3 : w12.cell? ⟨gb148, 3, none⟩ = some (.int .i64 a0_3) := (blk_cell BK148.out 3).trans rfl; have hfz13_0 := blk_frozen BK148.out 0; have hfz13_1 := blk_frozen BK148.out 1; have hfz13_2 := blk_frozen BK148.out 2; have hfz13_3 := blk_frozen BK148.out 3))
        go_ret
        exact ⟨by first | rfl | (simp [errW_none, errW_some] <;> rfl) | (simp [*, errW_none, errW_some] <;> rfl), by repeat (first | (with_reducible first | exact HB.out | apply below_alloc | apply pw_below_drewN | apply below_drew1 | refine below_set ?_ GE148.out) | exact HB.out)⟩
end Go.Proofs.YtfgogfdbjbnlbaaDoor.PExpr
end
section
namespace Go.Proofs.YtfgogfdbjbnlbaaDoor.PExpr
open Go.RowKit Go.Proofs.YtfgogfdbjbnlbaaDoorW.PrintWords Go.Proofs.YtfgogfdbjbnlbaaDoorW.PrintLast Go.Proofs.YtfgogfdbjbnlbaaDoorW.PrintMore
set_option linter.unusedVariables false
set_option linter.unusedSimpArgs false
inductive LR where
  | one (k : Int)
  | many (k : Int)
  | wrong (pos : Int)
def lrV : LR → Value
  | .one k => .iface 96 (.int .i64 k)
  | .many k => .iface 94 (.int .i64 k)
  | .wrong p => .iface 92 (.int .i64 p)
def argsF (look : Nd → Option LR) : List Nd → List Int → Option (LR ⊕ List Int)
  | [], acc => some (.inr acc)
  | x :: r, acc => (look x).bind fun q => match q with
    | .wrong p => some (.inl (.wrong p))
    | .many _ => some (.inl (.wrong x.f3))
    | .one k => if acc.length < 1000000 then argsF look r (acc ++ [k]) else none
def lastF (n : Nd) : LR ⊕ List Int → Option LR
  | .inl r => some r
  | .inr args => (kind_operation.f n.f0 n.f1 n.f2 n.f3).bind fun o =>
    some (if (findF o args).2.2 = false then .wrong n.f3 else if (findF o args).2.1 = true then .many (findF o args).1 else .one (findF o args).1)
def lookF : Nat → Nd → Option LR
  | 0, _ => none
  | f + 1, n =>
    if n.f0 = 1 then some (.one 2)
    else if n.f0 = 2 then some (.one 3)
    else if n.f0 = 3 then some (.one 4)
    else if n.f0 = 4 then some (.one 1)
    else if n.f0 = 5 then (kind_Kind.f 20 n.f1).bind fun k => some (.one k)
    else if n.f2.length ≤ 1000000 then (argsF (lookF f) n.f2 []).bind (lastF n) else none
theorem as_yes (T : TypeId) (h : Tryd.prog.underlying T = some (.int .i64)) (v : Value) (w : World) : (Instr.typeAssert (.iface T v) 20 T true).run Tryd.prog w = .ok (.tuple #[v, .bool true]) w := by
  simp [Instr.typeAssert, run_underlying h]
theorem one_wrong (v : Value) (w : World) : (Instr.typeAssert (.iface 96 v) 20 92 true).run Tryd.prog w = .ok (.tuple #[.int .i64 0, .bool false]) w := by
  have hu := Tryd.underlying92
  simp [Instr.typeAssert, run_underlying hu]
theorem many_wrong (v : Value) (w : World) : (Instr.typeAssert (.iface 94 v) 20 92 true).run Tryd.prog w = .ok (.tuple #[.int .i64 0, .bool false]) w := by
  have hu := Tryd.underlying92
  simp [Instr.typeAssert, run_underlying hu]
theorem many_one (v : Value) (w : World) : (Instr.typeAssert (.iface 94 v) 20 96 true).run Tryd.prog w = .ok (.tuple #[.int .i64 0, .bool false]) w := by
  have hu := Tryd.underlying96
  simp [Instr.typeAssert, run_underlying hu]
theorem one_many (v : Value) (w : World) : (Instr.typeAssert (.iface 96 v) 20 94 true).run Tryd.prog w = .ok (.tuple #[.int .i64 0, .bool false]) w := by
  have hu := Tryd.underlying94
  simp [Instr.typeAssert, run_underlying hu]
theorem as_one (v : Value) (w : World) : (Instr.typeAssert (.iface 96 v) 20 96 false).run Tryd.prog w = .ok v w := by
  have hu := Tryd.underlying96
  simp [Instr.typeAssert, run_underlying hu]
def LookC (f : Nat) : Prop := ∀ (n : Nd) (R : LR) (A : Option Addr) (c : Nat) (w : World), lookF f n = some R → Kd.C kNd w A n.f2.length n.f2 → n.f2.length ≤ c → Tab w →
  Calls Tryd.prog 43 #[ndV n A c] w fun e w' => e = .returned (lrV R) ∧ Below w.heap.size w w'
set_option maxHeartbeats 4000000 in
set_option maxRecDepth 100000 in
theorem look_flat (n : Nd) (A : Option Addr) (c : Nat) (w : World) (k : Int) (h : (n.f0 = 1 ∧ k = 2) ∨ (n.f0 = 2 ∧ k = 3) ∨ (n.f0 = 3 ∧ k = 4) ∨ (n.f0 = 4 ∧ k = 1)) :
    Calls Tryd.prog 43 #[ndV n A c] w fun e w' => e = .returned (lrV (.one k)) ∧ Below w.heap.size w w' := by
  unfold ndV
  obtain ⟨f0, f1, f2, f3⟩ := n
  rcases h with ⟨rfl, rfl⟩ | ⟨rfl, rfl⟩ | ⟨rfl, rfl⟩ | ⟨rfl, rfl⟩
  all_goals
    go_enter Tryd.func43, Tryd.ntmps43
    go_wp2_with (fail)
    ((try simp only [Exit.inBlock, Exit.then]); refine bodyPost_ret (by simp [results, Tryd.results43, go_sem, *]; try rfl) rfl ?_)
    exact ⟨rfl, below_alloc (Below.refl _ _) _⟩
set_option maxHeartbeats 4000000 in
set_option maxRecDepth 100000 in
theorem look_lit (n : Nd) (A : Option Addr) (c : Nat) (w : World) (k : Int) (h : n.f0 = 5) (hk : kind_Kind.f 20 n.f1 = some k) :
    Calls Tryd.prog 43 #[ndV n A c] w fun e w' => e = .returned (lrV (.one k)) ∧ Below w.heap.size w w' := by
  unfold ndV
  obtain ⟨f0, f1, f2, f3⟩ := n
  obtain rfl : f0 = 5 := h
  have HK := Aside0.mk (fun W => kind_Kind.calls 20 f1 k W hk)
  clear hk
  go_enter Tryd.func43, Tryd.ntmps43
  go_wp2_with (fail)
  refine (HK.out _).mono ?_
  rintro e w1 ⟨rfl, hb⟩
  go_wp2_with (fail)
  ((try simp only [Exit.inBlock, Exit.then]); refine bodyPost_ret (by simp [results, Tryd.results43, go_sem, *]; try rfl) rfl ?_)
  exact ⟨rfl, (below_alloc (Below.refl _ _) _).trans (hb.mono (by simp))⟩
theorem snoc_le {acc : List Int} {i : Nat} {k : Int} (h : acc.length ≤ i) : (acc ++ [k]).length ≤ i + 1 := by simp; omega
theorem small_le {n : Nat} (h : n ≤ 1000000) : n ≤ 17592186043904 := by omega
theorem len8 {n : Nat} (h : n < 1000000) : (n + 1) * 8 ≤ 140737488355328 := by omega
def LkInv (f : Nat) (n : Nd) (w : World) (b : Obj) (Rf : LR ⊕ List Int) (kq : Nat) (v3 v37 : Value) (w' : World) : Prop :=
  ∃ (i : Nat) (acc : List Int), v37 = .int .i64 i ∧ i ≤ n.f2.length ∧ acc.length ≤ i ∧ kq = n.f2.length - i + 1 ∧ argsF (lookF f) (n.f2.drop i) acc = some Rf ∧ (Kd.int .i64).R 3 w' w.heap.size (fun _ => True) v3 acc ∧ w'.heap[w.heap.size]? = some b ∧ Below w.heap.size w w'
set_option maxHeartbeats 8000000 in
set_option maxRecDepth 100000 in
theorem look_step (f : Nat) (ih : LookC f) (n : Nd) (R : LR) (Rf : LR ⊕ List Int) (A : Option Addr) (c : Nat) (w : World) (h1 : ¬ n.f0 = 1) (h2 : ¬ n.f0 = 2) (h3 : ¬ n.f0 = 3) (h4 : ¬ n.f0 = 4) (h5 : ¬ n.f0 = 5) (hargs : argsF (lookF f) n.f2 [] = some Rf) (hlast : lastF n Rf = some R) (hC : Kd.C kNd w A n.f2.length n.f2) (hc : n.f2.length ≤ c) (hn : n.f2.length ≤ 1000000) (hT : Tab w) :
    Calls Tryd.prog 43 #[ndV n A c] w fun e w' => e = .returned (lrV R) ∧ Below w.heap.size w w' := by
  unfold ndV
  have c1 : (n.f0 == 1) = false := beq_eq_false_iff_ne.mpr h1
  have c2 : (n.f0 == 2) = false := beq_eq_false_iff_ne.mpr h2
  have c3 : (n.f0 == 3) = false := beq_eq_false_iff_ne.mpr h3
  have c4 : (n.f0 == 4) = false := beq_eq_false_iff_ne.mpr h4
  have c5 : (n.f0 == 5) = false := beq_eq_false_iff_ne.mpr h5
  have HC := Aside0.mk hC
  have HA := Aside0.mk hargs
  have HL := Aside0.mk hlast
  have HT := Aside0.mk hT
  have IH := Aside0.mk ih
  clear hC hargs hlast hT ih h1 h2 h3 h4 h5
  go_enter Tryd.func43, Tryd.ntmps43
  go_wp2_with (fail)
  go_loopg [3, 37] (n.f2.length + 1) (fun kq v3 v37 w' => Aside0 (LkInv f n w (.cells #[.int .i64 n.f0, .string n.f1, .slice A n.f2.length c, .int .i64 n.f3] 58 (0, 0)) Rf kq v3 v37 w'))
  case atStart => exact ⟨⟨0, [], rfl, Nat.zero_le _, Nat.le_refl _, rfl, HA.out, Kd.R_nil _ _ _ _ _, heap_alloc_new w _, below_alloc (Below.refl _ _) _⟩⟩
  case round =>
    obtain ⟨i, acc, rfl, hi, hai, hk, hA, hR, hb0, hbel⟩ := hrel.out
    clear hrel HA
    have HA := Aside0.mk hA
    have HR := Aside0.mk hR
    have HB0 := Aside0.mk hb0
    have HBEL := Aside0.mk hbel
    have hs := hbel.size
    have hlw := blk_lt hb0
    clear hA hR hb0 hbel
    by_cases hlt : i < n.f2.length
    · have d0 : decide ((i : Int) < (n.f2.length : Int)) = true := decide_eq_true (Int.ofNat_lt.mpr hlt)
      have p0 : (0 ≤ (i : Int)) = True := eq_true (Int.natCast_nonneg i)
      have p1 : ((i : Int) < (n.f2.length : Int)) = True := eq_true (Int.ofNat_lt.mpr hlt)
      obtain ⟨ad, A2, c2, e0, x0, x1, x2, x3, hlc, hrow⟩ := at_T58 (Kd.C_below HC.out HBEL.out) (i : Int) (by omega) (by omega)
      subst e0
      have hrd : rd_T58 n.f2 (i : Int) = n.f2[i] := by
        unfold rd_T58
        rw [Int.toNat_natCast, List.getD_eq_getElem?_getD, List.getElem?_eq_getElem hlt]
        rfl
      rw [hrd, Int.toNat_natCast] at x0 x1 x2 x3
      rw [hrd] at hlc hrow
      have HS := Aside0.mk (show argsF (lookF f) (n.f2.drop i) acc = (lookF f n.f2[i]).bind fun q => match q with
        | .wrong p => some (.inl (.wrong p))
        | .many _ => some (.inl (.wrong n.f2[i].f3))
        | .one k => if acc.length < 1000000 then argsF (lookF f) (n.f2.drop (i + 1)) (acc ++ [k]) else none by
        rw [List.drop_eq_getElem_cons hlt, argsF])
      clear hrd
      generalize n.f2[i] = x at x0 x1 x2 x3 hlc hrow HS
      obtain ⟨wi1, wi2⟩ := wrap_i i n.f2.length hlt (by omega)
      obtain ⟨q, hq, hq2⟩ : ∃ q, lookF f x = some q ∧ (match q with
        | .wrong p => some (.inl (.wrong p))
        | .many _ => some (.inl (.wrong x.f3))
        | .one k => if acc.length < 1000000 then argsF (lookF f) (n.f2.drop (i + 1)) (acc ++ [k]) else none) = some Rf := by
        have := HA.out
        rw [HS.out] at this
        exact Option.bind_eq_some_iff.mp this
      have HW := Aside0.mk (below_alloc (Below.refl wr.heap.size wr) (.cells #[.int .i64 x.f0, .string x.f1, .slice A2 x.f2.length c2, .int .i64 x.f3] 58))
      have HCALL := Aside0.mk (IH.out x q A2 c2 (wr.alloc (.cells #[.int .i64 x.f0, .string x.f1, .slice A2 x.f2.length c2, .int .i64 x.f3] 58)) hq (Kd.C_below hrow HW.out) hlc ((HT.out.below HBEL.out).below HW.out))
      have HQ := Aside0.mk hq2
      have HBN := Aside0.mk (heap_alloc_new wr (.cells #[.int .i64 x.f0, .string x.f1, .slice A2 x.f2.length c2, .int .i64 x.f3] 58))
      clear hq hq2 hrow HS HA
      go_wp2_with (fail)
      refine HCALL.out.mono ?_
      rintro e w6 ⟨rfl, hb6⟩
      have HBEL6 := Aside0.mk (HBEL.out.trans ((HW.out.mono hs).trans (hb6.mono (by rw [World.size_alloc]; omega))))
      have HB06 := Aside0.mk (blk_below (blk_alloc HB0.out _) hb6)
      have HR6 := Aside0.mk (Kd.R_below (Kd.R_below HR.out HW.out) hb6)
      have HBN6 := Aside0.mk (blk_below HBN.out hb6)
      clear hb6 HCALL HW HBN HR HBEL HB0 x0 x1 x2 x3
      cases q with
      | wrong p =>
        have hR : R = .wrong p := by
          have h1 : some (Sum.inl (.wrong p)) = some Rf := HQ.out
          have h2 := HL.out
          rw [← Option.some.inj h1] at h2
          exact (Option.some.inj h2).symm
        subst hR
        have ty := as_yes 92 Tryd.underlying92 (.int .i64 p)
        unfold lrV
        go_wp2_with (fail)
        ((try simp only [Exit.inBlock, Exit.then]); refine bodyPost_ret (by simp [results, Tryd.results43, go_sem, *]; try rfl) rfl ?_)
        exact ⟨rfl, HBEL6.out⟩
      | many k =>
        have hR : R = .wrong x.f3 := by
          have h1 : some (Sum.inl (.wrong x.f3)) = some Rf := HQ.out
          have h2 := HL.out
          rw [← Option.some.inj h1] at h2
          exact (Option.some.inj h2).symm
        subst hR
        have t1 := many_wrong (.int .i64 k)
        have t2 := many_one (.int .i64 k)
        have y3 := (blk_cell HBN6.out 3).trans rfl
        unfold lrV
        go_wp2_with (fail)
        ((try simp only [Exit.inBlock, Exit.then]); refine bodyPost_ret (by simp [results, Tryd.results43, go_sem, *]; try rfl) rfl ?_)
        exact ⟨rfl, HBEL6.out⟩
      | one k =>
        have h1 : (if acc.length < 1000000 then argsF (lookF f) (n.f2.drop (i + 1)) (acc ++ [k]) else none) = some Rf := HQ.out
        by_cases hl : acc.length < 1000000
        · rw [if_pos hl] at h1
          have HA := Aside0.mk h1
          have t1 := one_wrong (.int .i64 k)
          have t2 := as_yes 96 Tryd.underlying96 (.int .i64 k)
          clear h1 HQ
          unfold lrV
          go_wp2_with (first | ((with_reducible refine gate_builtin (b := .append) (xs := #[.tmp 61, .tmp 63]) rfl ?_); at_builtin; refine Kd.R_append (Kd.int .i64) (w0 := w) w.heap.size rfl (.tmp 61) (.tmp 63) 25 3 (.int .i64 0) 8 rfl Tryd.underlying25 info3 rfl (by decide) (by omega) u3 acc k [.int .i64 k] (fun _ => True) (fun _ => False) rfl (by first | (go_simp; done) | (go_simp; rfl)) rfl (fun _ hk => hk.elim) (fun _ _ => trivial) HR6.out HBEL6.out HBEL6.out.size (len8 hl) ?_; intro v7 w7 ho hb hg hat; have HR7 := Aside0.mk ho; have HBEL7 := Aside0.mk hb; have HB07 := Aside0.mk (blk_grown HB06.out hg (Kd.R_ne HR6.out HB06.out (by decide))); clear ho hb hg hat))
          go_roundg (n.f2.length - i)
          case measure => exact dec_m hlt hk
          case rel => exact ⟨⟨i + 1, acc ++ [k], by first | with_reducible rfl | (simp; done), hlt, snoc_le hai, dec_k hlt, HA.out, HR7.out, HB07.out, HBEL7.out⟩⟩
        · rw [if_neg hl] at h1
          cases h1
    · have d0 : decide ((i : Int) < (n.f2.length : Int)) = false := decide_eq_false (fun q => hlt (Int.ofNat_lt.mp q))
      have hRf : Rf = .inr acc := by
        have := HA.out
        rw [List.drop_eq_nil_of_le (Nat.le_of_not_lt hlt)] at this
        exact (Option.some.inj this).symm
      subst hRf
      obtain ⟨o, ho, hlast⟩ : ∃ o, kind_operation.f n.f0 n.f1 n.f2 n.f3 = some o ∧ some (if (findF o acc).2.2 = false then LR.wrong n.f3 else if (findF o acc).2.1 = true then .many (findF o acc).1 else .one (findF o acc).1) = some R := Option.bind_eq_some_iff.mp HL.out
      obtain ⟨A3, c3, hv3, hl3, hC3⟩ := Kd.R_reads HR.out
      subst hv3
      have HOP := Aside0.mk (fun W hW => kind_operation.calls n.f0 n.f1 A c n.f2 n.f3 o W hW hc ho)
      have HFI := Aside0.mk (fun W hW hTW => find_calls o A3 c3 acc W hW hl3 (small_le (Nat.le_trans hai (Nat.le_trans hi hn))) hTW)
      have HLA := Aside0.mk (Option.some.inj hlast)
      have y0 := (blk_cell HB0.out 0).trans rfl
      have y1 := (blk_cell HB0.out 1).trans rfl
      have y2 := (blk_cell HB0.out 2).trans rfl
      have y3 := (blk_cell HB0.out 3).trans rfl
      have HC3 := Aside0.mk hC3
      clear ho hlast hC3 HL HA IH
      go_wp2_with (fail)
      refine (HOP.out _ (Kd.C_below HC.out HBEL.out)).mono ?_
      rintro e w6 ⟨rfl, hb6⟩
      have HBEL6 := Aside0.mk (HBEL.out.trans (hb6.mono hs))
      have HB06 := Aside0.mk (blk_below HB0.out hb6)
      have HC6 := Aside0.mk (Kd.C_below HC3.out hb6)
      clear hb6 HC3 HOP HB0 y0 y1 y2 y3
      go_wp2_with (fail)
      refine (HFI.out _ HC6.out (HT.out.below HBEL6.out)).mono ?_
      rintro e w7 ⟨rfl, hb7⟩
      have HBEL7 := Aside0.mk (HBEL6.out.trans (hb7.mono HBEL6.out.size))
      have HB07 := Aside0.mk (blk_below HB06.out hb7)
      have z3 := (blk_cell HB07.out 3).trans rfl
      clear hb7 HFI HB06 HC6
      generalize findF o acc = fr at HLA ⊢
      obtain ⟨fk, fl, fo⟩ := fr
      cases fo with
      | false =>
        have hR : R = .wrong n.f3 := HLA.out.symm
        subst hR
        go_wp2_with (fail)
        ((try simp only [Exit.inBlock, Exit.then]); refine bodyPost_ret (by simp [results, Tryd.results43, go_sem, *]; try rfl) rfl ?_)
        exact ⟨rfl, HBEL7.out⟩
      | true =>
        cases fl with
        | true =>
          have hR : R = .many fk := HLA.out.symm
          subst hR
          go_wp2_with (fail)
          ((try simp only [Exit.inBlock, Exit.then]); refine bodyPost_ret (by simp [results, Tryd.results43, go_sem, *]; try rfl) rfl ?_)
          exact ⟨rfl, HBEL7.out⟩
        | false =>
          have hR : R = .one fk := HLA.out.symm
          subst hR
          go_wp2_with (fail)
          ((try simp only [Exit.inBlock, Exit.then]); refine bodyPost_ret (by simp [results, Tryd.results43, go_sem, *]; try rfl) rfl ?_)
          exact ⟨rfl, HBEL7.out⟩
theorem look_calls : ∀ f, LookC f
  | 0 => fun n R A c w h _ _ _ => by cases h
  | f + 1 => fun n R A c w h hC hc hT => by
    rw [lookF] at h
    by_cases h1 : n.f0 = 1
    · rw [if_pos h1] at h
      obtain rfl := Option.some.inj h
      exact look_flat n A c w 2 (.inl ⟨h1, rfl⟩)
    rw [if_neg h1] at h
    by_cases h2 : n.f0 = 2
    · rw [if_pos h2] at h
      obtain rfl := Option.some.inj h
      exact look_flat n A c w 3 (.inr (.inl ⟨h2, rfl⟩))
    rw [if_neg h2] at h
    by_cases h3 : n.f0 = 3
    · rw [if_pos h3] at h
      obtain rfl := Option.some.inj h
      exact look_flat n A c w 4 (.inr (.inr (.inl ⟨h3, rfl⟩)))
    rw [if_neg h3] at h
    by_cases h4 : n.f0 = 4
    · rw [if_pos h4] at h
      obtain rfl := Option.some.inj h
      exact look_flat n A c w 1 (.inr (.inr (.inr ⟨h4, rfl⟩)))
    rw [if_neg h4] at h
    by_cases h5 : n.f0 = 5
    · rw [if_pos h5] at h
      obtain ⟨k, hk, h⟩ := Option.bind_eq_some_iff.mp h
      obtain rfl := Option.some.inj h
      exact look_lit n A c w k h5 hk
    rw [if_neg h5] at h
    by_cases hn : n.f2.length ≤ 1000000
    · rw [if_pos hn] at h
      obtain ⟨Rf, hR, hl⟩ := Option.bind_eq_some_iff.mp h
      exact look_step f (look_calls f) n R Rf A c w h1 h2 h3 h4 h5 hR hl hC hc hn hT
    · rw [if_neg hn] at h
      cases h
def lrC : LR → Int × Bool × Int × Int
  | .one k => (k, false, 0, 0)
  | .many k => (k, true, 0, 0)
  | .wrong p => (0, false, p, 32)
def checkF (n : Nd) : Option (Int × Bool × Int × Int) := (lookF 3000 n).map lrC
set_option maxHeartbeats 4000000 in
set_option maxRecDepth 100000 in
theorem check_calls (n : Nd) (r : Int × Bool × Int × Int) (A : Option Addr) (c : Nat) (w : World) (h : checkF n = some r) (hC : Kd.C kNd w A n.f2.length n.f2) (hc : n.f2.length ≤ c) (hT : Tab w) :
    Calls Tryd.prog 24 #[ndV n A c] w fun e w' => e = .returned (.tuple #[.int .i64 r.1, .bool r.2.1, .int .i64 r.2.2.1, .int .i64 r.2.2.2]) ∧ Below w.heap.size w w' := by
  obtain ⟨R, hR, rfl⟩ := Option.map_eq_some_iff.1 h
  have HW := Aside0.mk (below_alloc (Below.refl w.heap.size w) (.cells #[.int .i64 n.f0, .string n.f1, .slice A n.f2.length c, .int .i64 n.f3] 58))
  have HCALL := Aside0.mk (look_calls 3000 n R A c (w.alloc (.cells #[.int .i64 n.f0, .string n.f1, .slice A n.f2.length c, .int .i64 n.f3] 58)) hR (Kd.C_below hC HW.out) hc (hT.below HW.out))
  clear hR h hC hT
  unfold ndV
  go_enter Tryd.func24, Tryd.ntmps24
  go_wp2_with (fail)
  refine HCALL.out.mono ?_
  rintro e w1 ⟨rfl, hb1⟩
  have HB1 := Aside0.mk (HW.out.trans (hb1.mono (by rw [World.size_alloc]; omega)))
  clear hb1 HCALL HW
  cases R with
  | one k =>
    have t1 := one_wrong (.int .i64 k)
    have t2 := one_many (.int .i64 k)
    have t3 := as_one (.int .i64 k)
    unfold lrV
    go_wp2_with (fail)
    ((try simp only [Exit.inBlock, Exit.then]); refine bodyPost_ret (by simp [results, Tryd.results24, go_sem, *]; try rfl) rfl ?_)
    exact ⟨rfl, HB1.out⟩
  | many k =>
    have t1 := many_wrong (.int .i64 k)
    have t2 := as_yes 94 Tryd.underlying94 (.int .i64 k)
    unfold lrV
    go_wp2_with (fail)
    ((try simp only [Exit.inBlock, Exit.then]); refine bodyPost_ret (by simp [results, Tryd.results24, go_sem, *]; try rfl) rfl ?_)
    exact ⟨rfl, HB1.out⟩
  | wrong p =>
    have t1 := as_yes 92 Tryd.underlying92 (.int .i64 p)
    unfold lrV
    go_wp2_with (fail)
    ((try simp only [Exit.inBlock, Exit.then]); refine bodyPost_ret (by simp [results, Tryd.results24, go_sem, *]; try rfl) rfl ?_)
    exact ⟨rfl, HB1.out⟩
end Go.Proofs.YtfgogfdbjbnlbaaDoor.PExpr
end
section
namespace Go.Proofs.YtfgogfdbjbnlbaaDoor.PExpr
open Go.RowKit Go.Proofs.YtfgogfdbjbnlbaaDoorW.PrintWords Go.Proofs.YtfgogfdbjbnlbaaDoorW.PrintLast Go.Proofs.YtfgogfdbjbnlbaaDoorW.PrintMore
attribute [local go_sem] max2_int min2_int max_two min_two max_three min_three max_four min_four   -- for this text's walks alone
set_option linter.unusedVariables false
set_option linter.unusedSimpArgs false
def computusref23_compares.f (a0 : ByteArray) : Option (Bool × Bool) := if a0.toList = ([61] : List UInt8) then (some (true, true)) else (if a0.toList = ([60, 62] : List UInt8) then (some (true, (a0.toList == ([60, 62] : List UInt8)))) else (if a0.toList = ([60] : List UInt8) then (some (true, (a0.toList == ([60, 62] : List UInt8)))) else (if a0.toList = ([60, 61] : List UInt8) then (some (true, (a0.toList == ([60, 62] : List UInt8)))) else (if a0.toList = ([62] : List UInt8) then (some (true, (a0.toList == ([60, 62] : List UInt8)))) else (some ((a0.toList == ([62, 61] : List UInt8)), (a0.toList == ([60, 62] : List UInt8))))))))
set_option maxHeartbeats 8000000 in
set_option maxRecDepth 100000 in
theorem computusref23_compares.calls (a0 : ByteArray) (r1 : Bool) (r2 : Bool) (w : World) (h : computusref23_compares.f a0 = some (r1, r2)) :
    Calls Tryd.prog 26 #[.string a0] w fun e w' => e = .returned (.tuple #[.bool r1, .bool r2]) ∧ Drawn0 w w' := by
  have H : (if a0.toList = ([61] : List UInt8) then (some (true, true)) else (if a0.toList = ([60, 62] : List UInt8) then (some (true, (a0.toList == ([60, 62] : List UInt8)))) else (if a0.toList = ([60] : List UInt8) then (some (true, (a0.toList == ([60, 62] : List UInt8)))) else (if a0.toList = ([60, 61] : List UInt8) then (some (true, (a0.toList == ([60, 62] : List UInt8)))) else (if a0.toList = ([62] : List UInt8) then (some (true, (a0.toList == ([60, 62] : List UInt8)))) else (some ((a0.toList == ([62, 61] : List UInt8)), (a0.toList == ([60, 62] : List UInt8))))))))) = some (r1, r2) := h
  clear h
  by_cases c2 : a0.toList = ([61] : List UInt8)
  · rw [if_pos c2] at H
    have c2b0 : (a0.toList == ([61] : List UInt8)) = true := beq_iff_eq.mpr c2
    have c2b1 : (a0.toList != ([61] : List UInt8)) = false := bne_eq_false_iff_eq.mpr c2
    clear c2
    simp only [Option.some.injEq, Prod.mk.injEq] at H
    obtain ⟨rfl, rfl⟩ := H
    go_enter Tryd.func26, Tryd.ntmps26
    go_wp2
    go_ret2
    exact ⟨by first | rfl | (simp; done) | (simp [*]; done), by repeat (first | exact Drawn0.refl _ | apply Drawn0.step)⟩
  · rw [if_neg c2] at H
    have c2b0 : (a0.toList == ([61] : List UInt8)) = false := beq_eq_false_iff_ne.mpr c2
    have c2b1 : (a0.toList != ([61] : List UInt8)) = true := bne_iff_ne.mpr c2
    by_cases c3 : a0.toList = ([60, 62] : List UInt8)
    · rw [if_pos c3] at H
      have c3b0 : (a0.toList == ([60, 62] : List UInt8)) = true := beq_iff_eq.mpr c3
      have c3b1 : (a0.toList != ([60, 62] : List UInt8)) = false := bne_eq_false_iff_eq.mpr c3
      clear c3
      simp only [Option.some.injEq, Prod.mk.injEq] at H
      obtain ⟨rfl, rfl⟩ := H
      go_enter Tryd.func26, Tryd.ntmps26
      go_wp2
      go_ret2
      exact ⟨by first | rfl | (simp; done) | (simp [*]; done), by repeat (first | exact Drawn0.refl _ | apply Drawn0.step)⟩
    · rw [if_neg c3] at H
      have c3b0 : (a0.toList == ([60, 62] : List UInt8)) = false := beq_eq_false_iff_ne.mpr c3
      have c3b1 : (a0.toList != ([60, 62] : List UInt8)) = true := bne_iff_ne.mpr c3
      by_cases c4 : a0.toList = ([60] : List UInt8)
      · rw [if_pos c4] at H
        have c4b0 : (a0.toList == ([60] : List UInt8)) = true := beq_iff_eq.mpr c4
        have c4b1 : (a0.toList != ([60] : List UInt8)) = false := bne_eq_false_iff_eq.mpr c4
        clear c4
        simp only [Option.some.injEq, Prod.mk.injEq] at H
        obtain ⟨rfl, rfl⟩ := H
        go_enter Tryd.func26, Tryd.ntmps26
        go_wp2
        go_ret2
        exact ⟨by first | rfl | (simp; done) | (simp [*]; done), by repeat (first | exact Drawn0.refl _ | apply Drawn0.step)⟩
      · rw [if_neg c4] at H
        have c4b0 : (a0.toList == ([60] : List UInt8)) = false := beq_eq_false_iff_ne.mpr c4
        have c4b1 : (a0.toList != ([60] : List UInt8)) = true := bne_iff_ne.mpr c4
        by_cases c5 : a0.toList = ([60, 61] : List UInt8)
        · rw [if_pos c5] at H
          have c5b0 : (a0.toList == ([60, 61] : List UInt8)) = true := beq_iff_eq.mpr c5
          have c5b1 : (a0.toList != ([60, 61] : List UInt8)) = false := bne_eq_false_iff_eq.mpr c5
          clear c5
          simp only [Option.some.injEq, Prod.mk.injEq] at H
          obtain ⟨rfl, rfl⟩ := H
          go_enter Tryd.func26, Tryd.ntmps26
          go_wp2
          go_ret2
          exact ⟨by first | rfl | (simp; done) | (simp [*]; done), by repeat (first | exact Drawn0.refl _ | apply Drawn0.step)⟩
        · rw [if_neg c5] at H
          have c5b0 : (a0.toList == ([60, 61] : List UInt8)) = false := beq_eq_false_iff_ne.mpr c5
          have c5b1 : (a0.toList != ([60, 61] : List UInt8)) = true := bne_iff_ne.mpr c5
          by_cases c6 : a0.toList = ([62] : List UInt8)
          · rw [if_pos c6] at H
            have c6b0 : (a0.toList == ([62] : List UInt8)) = true := beq_iff_eq.mpr c6
            have c6b1 : (a0.toList != ([62] : List UInt8)) = false := bne_eq_false_iff_eq.mpr c6
            clear c6
            simp only [Option.some.injEq, Prod.mk.injEq] at H
            obtain ⟨rfl, rfl⟩ := H
            go_enter Tryd.func26, Tryd.ntmps26
            go_wp2
            go_ret2
            exact ⟨by first | rfl | (simp; done) | (simp [*]; done), by repeat (first | exact Drawn0.refl _ | apply Drawn0.step)⟩
          · rw [if_neg c6] at H
            have c6b0 : (a0.toList == ([62] : List UInt8)) = false := beq_eq_false_iff_ne.mpr c6
            have c6b1 : (a0.toList != ([62] : List UInt8)) = true := bne_iff_ne.mpr c6
            simp only [Option.some.injEq, Prod.mk.injEq] at H
            obtain ⟨rfl, rfl⟩ := H
            go_enter Tryd.func26, Tryd.ntmps26
            go_wp2
            go_ret2
            exact ⟨by first | rfl | (simp; done) | (simp [*]; done), by repeat (first | exact Drawn0.refl _ | apply Drawn0.step)⟩
def computusref23_same.l0 : Nat → List Int → List Int → Int → Option (Bool)
  | 0, _, _, _ => none
  | k + 1, x0, x1, x5 => if x5 < (x0.length : Int) then (if 0 ≤ x5 then (if x5 < (x1.length : Int) then (if (rd x0 x5) = (rd x1 x5) then (computusref23_same.l0 k x0 x1 (wrap64 (x5 + 1))) else (some false)) else (none)) else (none)) else (some true)
def computusref23_same.f (k : Nat) (l0 : List Int) (l1 : List Int) : Option (Bool) := if (l0.length : Int) = (l1.length : Int) then (computusref23_same.l0 k l0 l1 0) else (some false)
theorem computusref23_same.mono_l : ∀ k, (∀ y0 y1 y2, LeO (computusref23_same.l0 k y0 y1 y2) (computusref23_same.l0 (k + 1) y0 y1 y2))
  | 0 => fun _ _ _ r h => by simp [computusref23_same.l0] at h
  | k + 1 => by
    have ih0 := computusref23_same.mono_l k
    · intro y0 y1 y2
      unfold computusref23_same.l0
      repeat' first
      | (with_reducible exact ih0 _ _ _)
      | (with_reducible exact LeO.refl _)
      | (with_reducible exact LeO.none _)
      | (with_reducible refine LeO.ite ?_ ?_)
      | (with_reducible refine LeO.bind ?_ (fun _ => ?_))
      | exact ih0 _ _ _
      | exact LeO.none _
      | refine LeO.ite ?_ ?_
      | refine LeO.bind ?_ (fun _ => ?_)
theorem computusref23_same.mono : ∀ a0 a1 k, LeO (computusref23_same.f k a0 a1) (computusref23_same.f (k + 1) a0 a1) := by
  intro a0 a1 k
  have ih0 := computusref23_same.mono_l k
  unfold computusref23_same.f
  repeat' first
      | (with_reducible exact ih0 _ _ _)
      | (with_reducible exact LeO.refl _)
      | (with_reducible exact LeO.none _)
      | (with_reducible refine LeO.ite ?_ ?_)
      | (with_reducible refine LeO.bind ?_ (fun _ => ?_))
      | exact ih0 _ _ _
      | exact LeO.none _
      | refine LeO.ite ?_ ?_
      | refine LeO.bind ?_ (fun _ => ?_)
set_option maxHeartbeats 8000000 in
set_option maxRecDepth 100000 in
theorem computusref23_same.calls (k : Nat) (A0 : Option Addr) (c0 : Nat) (l0 : List Int) (A1 : Option Addr) (c1 : Nat) (l1 : List Int) (r : Bool) (w : World) (hr0 : Kd.C (Kd.int .i64) w A0 l0.length l0) (hc0 : l0.length ≤ c0) (hr1 : Kd.C (Kd.int .i64) w A1 l1.length l1) (hc1 : l1.length ≤ c1) (h : computusref23_same.f k l0 l1 = some r) :
    Calls Tryd.prog 27 #[.slice A0 l0.length c0, .slice A1 l1.length c1] w fun e w' => e = .returned (.bool r) ∧ Drawn0 w w' := by
  have HR0 := Aside0.mk hr0
  have HC0 := Aside0.mk hc0
  clear hr0 hc0
  have HR1 := Aside0.mk hr1
  have HC1 := Aside0.mk hc1
  clear hr1 hc1
  have H : (if (l0.length : Int) = (l1.length : Int) then (computusref23_same.l0 k l0 l1 0) else (some false)) = some r := h
  clear h
  by_cases c3 : (l0.length : Int) = (l1.length : Int)
  · rw [if_pos c3] at H
    have c3b0 : ((l0.length : Int) == (l1.length : Int)) = true := beq_iff_eq.mpr c3
    have c3b1 : ((l0.length : Int) != (l1.length : Int)) = false := bne_eq_false_iff_eq.mpr c3
    have c3b2 : (l0.length == l1.length) = true := by first | simpa using c3 | (simp at c3 ⊢; omega)
    clear c3
    have H' := Aside0.mk H
    clear H
    go_enter Tryd.func27, Tryd.ntmps27
    go_wp2
    repeat (go_quiet (fail); try go_wp2)
    go_loopg [5] k (fun kq v5 w' => ∃ (x5_1 : Int), v5 = .int .i64 x5_1 ∧ Aside0 (computusref23_same.l0 kq l0 l1 x5_1 = some r) ∧ Aside0 (kq ≤ k) ∧ Drawn0 w w')
    case atStart => exact ⟨(0), (by first | rfl | (simp; done) | (simp [*]; done)), H', ⟨Nat.le_refl _⟩, by repeat (first | exact Drawn0.refl _ | apply Drawn0.step)⟩
    case round =>
      clear H'
      try clear c1
      try clear c2
      try clear p2
      try clear c3
      try clear c3b0
      try clear c3b1
      try clear c3b2
      obtain ⟨x5_1, rfl, HA, HK1, ⟨m1, rfl⟩⟩ := hrel
      cases gk with
      | zero => exact absurd HA.out (by simp [computusref23_same.l0])
      | succ k1 =>
        have H := HA.out
        clear HA
        simp only [computusref23_same.l0] at H
        by_cases c4 : x5_1 < (l0.length : Int)
        · rw [if_pos c4] at H
          have c4b0 : decide (x5_1 < (l0.length : Int)) = true := decide_eq_true c4
          clear c4
          by_cases c5 : 0 ≤ x5_1
          · rw [if_pos c5] at H
            have c5b0 : decide (0 ≤ x5_1) = true := decide_eq_true c5
            clear c5
            by_cases c6 : x5_1 < (l1.length : Int)
            · rw [if_pos c6] at H
              have c6b0 : decide (x5_1 < (l1.length : Int)) = true := decide_eq_true c6
              clear c6
              by_cases c7 : (rd l0 x5_1) = (rd l1 x5_1)
              · rw [if_pos c7] at H
                have c7b0 : ((rd l0 x5_1) == (rd l1 x5_1)) = true := beq_iff_eq.mpr c7
                have c7b1 : ((rd l0 x5_1) != (rd l1 x5_1)) = false := bne_eq_false_iff_eq.mpr c7
                clear c7
                have H' := Aside0.mk H
                clear H
                have p222 : 0 ≤ (x5_1 : Int) := of_decide_eq_true (by first | (with_reducible assumption) | assumption)
                have q222 : x5_1 < (l0.length : Int) := of_decide_eq_true (by first | (with_reducible assumption) | assumption)
                obtain ⟨ad222, e222, hx222_0⟩ := Kd.at_int HR0.out x5_1 p222 q222
                cases e222
                replace p222 := eq_true p222
                replace q222 := eq_true q222
                have p223 : 0 ≤ (x5_1 : Int) := of_decide_eq_true (by first | (with_reducible assumption) | assumption)
                have q223 : x5_1 < (l1.length : Int) := of_decide_eq_true (by first | (with_reducible assumption) | assumption)
                obtain ⟨ad223, e223, hx223_0⟩ := Kd.at_int HR1.out x5_1 p223 q223
                cases e223
                replace p223 := eq_true p223
                replace q223 := eq_true q223
                go_wp2
                repeat (go_quiet (fail); try go_wp2)
                go_roundg k1
                case measure => have := HK1.out; omega
                case rel => exact ⟨(wrap64 (x5_1 + 1)), (by first | rfl | (simp; done) | (simp [*]; done)), H', ⟨by have := HK1.out; omega⟩, by repeat (first | exact Drawn0.refl _ | apply Drawn0.step)⟩
              · rw [if_neg c7] at H
                have c7b0 : ((rd l0 x5_1) == (rd l1 x5_1)) = false := beq_eq_false_iff_ne.mpr c7
                have c7b1 : ((rd l0 x5_1) != (rd l1 x5_1)) = true := bne_iff_ne.mpr c7
                obtain rfl := Option.some.inj H
                have p222 : 0 ≤ (x5_1 : Int) := of_decide_eq_true (by first | (with_reducible assumption) | assumption)
                have q222 : x5_1 < (l0.length : Int) := of_decide_eq_true (by first | (with_reducible assumption) | assumption)
                obtain ⟨ad222, e222, hx222_0⟩ := Kd.at_int HR0.out x5_1 p222 q222
                cases e222
                replace p222 := eq_true p222
                replace q222 := eq_true q222
                have p223 : 0 ≤ (x5_1 : Int) := of_decide_eq_true (by first | (with_reducible assumption) | assumption)
                have q223 : x5_1 < (l1.length : Int) := of_decide_eq_true (by first | (with_reducible assumption) | assumption)
                obtain ⟨ad223, e223, hx223_0⟩ := Kd.at_int HR1.out x5_1 p223 q223
                cases e223
                replace p223 := eq_true p223
                replace q223 := eq_true q223
                go_wp2
                repeat (go_quiet (fail); try go_wp2)
                go_ret
                exact ⟨by first | rfl | (simp; done) | (simp [*]; done), by repeat (first | exact Drawn0.refl _ | apply Drawn0.step)⟩
            · rw [if_neg c6] at H
              exact absurd H (by simp)
          · rw [if_neg c5] at H
            exact absurd H (by simp)
        · rw [if_neg c4] at H
          have c4b0 : decide (x5_1 < (l0.length : Int)) = false := decide_eq_false c4
          clear c4
          obtain rfl := Option.some.inj H
          go_wp2
          repeat (go_quiet (fail); try go_wp2)
          go_ret
          exact ⟨by first | rfl | (simp; done) | (simp [*]; done), by repeat (first | exact Drawn0.refl _ | apply Drawn0.step)⟩
  · rw [if_neg c3] at H
    have c3b0 : ((l0.length : Int) == (l1.length : Int)) = false := beq_eq_false_iff_ne.mpr c3
    have c3b1 : ((l0.length : Int) != (l1.length : Int)) = true := bne_iff_ne.mpr c3
    have c3b2 : (l0.length == l1.length) = false := by first | simpa using c3 | (simp at c3 ⊢; omega)
    obtain rfl := Option.some.inj H
    go_enter Tryd.func27, Tryd.ntmps27
    go_wp2
    repeat (go_quiet (fail); try go_wp2)
    go_ret
    exact ⟨by first | rfl | (simp; done) | (simp [*]; done), by repeat (first | exact Drawn0.refl _ | apply Drawn0.step)⟩
end Go.Proofs.YtfgogfdbjbnlbaaDoor.PExpr
end
section
namespace Go.Proofs.YtfgogfdbjbnlbaaDoor.PExpr
open Go.RowKit Go.Proofs.YtfgogfdbjbnlbaaDoorW.PrintWords Go.Proofs.YtfgogfdbjbnlbaaDoorW.PrintLast Go.Proofs.YtfgogfdbjbnlbaaDoorW.PrintMore
attribute [local go_sem] max2_int min2_int max_two min_two max_three min_three max_four min_four   -- for this text's walks alone
set_option linter.unusedVariables false
set_option linter.unusedSimpArgs false
def computusref23_names.f  : Option (List ByteArray) := some (([(⟨#[]⟩ : ByteArray), (⟨#[98, 111, 111, 108]⟩ : ByteArray), (⟨#[105, 110, 116]⟩ : ByteArray), (⟨#[110, 117, 109, 101, 114, 105, 99]⟩ : ByteArray), (⟨#[116, 101, 120, 116]⟩ : ByteArray), (⟨#[100, 97, 116, 101]⟩ : ByteArray), (⟨#[116, 105, 109, 101, 115, 116, 97, 109, 112]⟩ : ByteArray), (⟨#[116, 105, 109, 101, 115, 116, 97, 109, 112, 116, 122]⟩ : ByteArray), (⟨#[105, 110, 116, 101, 114, 118, 97, 108]⟩ : ByteArray)] : List ByteArray))
set_option maxHeartbeats 8000000 in
set_option maxRecDepth 100000 in
theorem computusref23_names.calls  (r : List ByteArray) (w : World) (h : computusref23_names.f  = some r) :
    Calls Tryd.prog 28 #[] w fun e w' => ∃ v0_ : Value, e = .returned (v0_) ∧ Kd.R Kd.string 9 w' w.heap.size (fun _ => True) v0_ r ∧ Below w.heap.size w w' := by
  have HB := Aside0.mk (Below.refl w.heap.size w)
  have H : (some (([(⟨#[]⟩ : ByteArray), (⟨#[98, 111, 111, 108]⟩ : ByteArray), (⟨#[105, 110, 116]⟩ : ByteArray), (⟨#[110, 117, 109, 101, 114, 105, 99]⟩ : ByteArray), (⟨#[116, 101, 120, 116]⟩ : ByteArray), (⟨#[100, 97, 116, 101]⟩ : ByteArray), (⟨#[116, 105, 109, 101, 115, 116, 97, 109, 112]⟩ : ByteArray), (⟨#[116, 105, 109, 101, 115, 116, 97, 109, 112, 116, 122]⟩ : ByteArray), (⟨#[105, 110, 116, 101, 114, 118, 97, 108]⟩ : ByteArray)] : List ByteArray))) = some r := h
  clear h
  obtain ⟨y235, hy235⟩ : ∃ y_ : List ByteArray, y_ = (([(⟨#[]⟩ : ByteArray), (⟨#[98, 111, 111, 108]⟩ : ByteArray), (⟨#[105, 110, 116]⟩ : ByteArray), (⟨#[110, 117, 109, 101, 114, 105, 99]⟩ : ByteArray), (⟨#[116, 101, 120, 116]⟩ : ByteArray), (⟨#[100, 97, 116, 101]⟩ : ByteArray), (⟨#[116, 105, 109, 101, 115, 116, 97, 109, 112]⟩ : ByteArray), (⟨#[116, 105, 109, 101, 115, 116, 97, 109, 112, 116, 122]⟩ : ByteArray), (⟨#[105, 110, 116, 101, 114, 118, 97, 108]⟩ : ByteArray)] : List ByteArray)) := ⟨_, rfl⟩
  replace H : (some y235) = some r := by first | (rw [hy235]; with_reducible exact H) | (have H2_ := (Option.bind_some _ _).symm.trans H; rw [hy235]; with_reducible exact H2_) | (have H2_ := (Option.bind_some _ _).symm.trans H; with_reducible exact H2_) | with_reducible exact H | (rw [hy235]; exact H) | exact H
  have Ny235 := Aside0.mk hy235
  clear hy235
  obtain rfl := Option.some.inj H
  go_enter Tryd.func28, Tryd.ntmps28
  go_wp2_with (first | ((with_reducible refine gate_dst (N := 1) rfl ?_); refine Kd.R_lit Kd.string _ 9 ?hg (N := 1) ?hd (xs := ([(⟨#[]⟩ : ByteArray), (⟨#[98, 111, 111, 108]⟩ : ByteArray), (⟨#[105, 110, 116]⟩ : ByteArray), (⟨#[110, 117, 109, 101, 114, 105, 99]⟩ : ByteArray), (⟨#[116, 101, 120, 116]⟩ : ByteArray), (⟨#[100, 97, 116, 101]⟩ : ByteArray), (⟨#[116, 105, 109, 101, 115, 116, 97, 109, 112]⟩ : ByteArray), (⟨#[116, 105, 109, 101, 115, 116, 97, 109, 112, 116, 122]⟩ : ByteArray), (⟨#[105, 110, 116, 101, 114, 118, 97, 108]⟩ : ByteArray)] : List ByteArray)) (inner := [.string (⟨#[]⟩ : ByteArray), .string (⟨#[98, 111, 111, 108]⟩ : ByteArray), .string (⟨#[105, 110, 116]⟩ : ByteArray), .string (⟨#[110, 117, 109, 101, 114, 105, 99]⟩ : ByteArray), .string (⟨#[116, 101, 120, 116]⟩ : ByteArray), .string (⟨#[100, 97, 116, 101]⟩ : ByteArray), .string (⟨#[116, 105, 109, 101, 115, 116, 97, 109, 112]⟩ : ByteArray), .string (⟨#[116, 105, 109, 101, 115, 116, 97, 109, 112, 116, 122]⟩ : ByteArray), .string (⟨#[105, 110, 116, 101, 114, 118, 97, 108]⟩ : ByteArray)]) (ok := fun _ => True) (okp := fun _ => True) ?hr ?hp (fun _ hk => hk) trivial (Below.refl _ _) (Nat.le_refl _) (by simp) ?_; (case hd => rfl); (case hg => rfl); (case hr => first | (go_simp; done) | (go_simp; rfl)); (case hp => exact (Reps.one (show Kd.M Kd.string _ _ _ (⟨#[]⟩ : ByteArray) [.string (⟨#[]⟩ : ByteArray)] from rfl) (Reps.one (show Kd.M Kd.string _ _ _ (⟨#[98, 111, 111, 108]⟩ : ByteArray) [.string (⟨#[98, 111, 111, 108]⟩ : ByteArray)] from rfl) (Reps.one (show Kd.M Kd.string _ _ _ (⟨#[105, 110, 116]⟩ : ByteArray) [.string (⟨#[105, 110, 116]⟩ : ByteArray)] from rfl) (Reps.one (show Kd.M Kd.string _ _ _ (⟨#[110, 117, 109, 101, 114, 105, 99]⟩ : ByteArray) [.string (⟨#[110, 117, 109, 101, 114, 105, 99]⟩ : ByteArray)] from rfl) (Reps.one (show Kd.M Kd.string _ _ _ (⟨#[116, 101, 120, 116]⟩ : ByteArray) [.string (⟨#[116, 101, 120, 116]⟩ : ByteArray)] from rfl) (Reps.one (show Kd.M Kd.string _ _ _ (⟨#[100, 97, 116, 101]⟩ : ByteArray) [.string (⟨#[100, 97, 116, 101]⟩ : ByteArray)] from rfl) (Reps.one (show Kd.M Kd.string _ _ _ (⟨#[116, 105, 109, 101, 115, 116, 97, 109, 112]⟩ : ByteArray) [.string (⟨#[116, 105, 109, 101, 115, 116, 97, 109, 112]⟩ : ByteArray)] from rfl) (Reps.one (show Kd.M Kd.string _ _ _ (⟨#[116, 105, 109, 101, 115, 116, 97, 109, 112, 116, 122]⟩ : ByteArray) [.string (⟨#[116, 105, 109, 101, 115, 116, 97, 109, 112, 116, 122]⟩ : ByteArray)] from rfl) (Reps.one (show Kd.M Kd.string _ _ _ (⟨#[105, 110, 116, 101, 114, 118, 97, 108]⟩ : ByteArray) [.string (⟨#[105, 110, 116, 101, 114, 118, 97, 108]⟩ : ByteArray)] from rfl) (Reps.none _ _))))))))))); intro v236 w1 ho2 hb hg_ hnew_; clear hg_ hnew_; (first | rw [← Ny235.out] at ho2 | (simp only [Int.reduceToNat] at ho2; rw [← Ny235.out] at ho2)); have n0_ := Aside0.mk (Kd.R_lower ho2 (below_size (by repeat (first | (with_reducible first | exact HB.out | apply below_alloc | apply pw_below_drewN | apply below_drew1) | exact HB.out)))); have n1_ := Aside0.mk (below_step (by repeat (first | (with_reducible first | exact HB.out | apply below_alloc | apply pw_below_drewN | apply below_drew1) | exact HB.out)) hb); clear HB; have HO237 := n0_; have HB := n1_; clear n0_ n1_; clear hb ho2))
  go_ret
  exact ⟨_, by first | rfl | (simp [errW_none, errW_some] <;> rfl) | (simp [*, errW_none, errW_some] <;> rfl), by (with_reducible repeat (first | apply Kd.R_alloc | apply Kd.R_drewN | apply Kd.R_drew)); exact HO237.out, by repeat (first | (with_reducible first | exact HB.out | apply below_alloc | apply pw_below_drewN | apply below_drew1) | exact HB.out)⟩
def computusref23_Name.f (a0 : Int) : Option (ByteArray) := if a0 < 1 then (some (⟨#[]⟩ : ByteArray)) else (if a0 > 8 then (some (⟨#[]⟩ : ByteArray)) else ((computusref23_names.f).bind fun t238 => (if 0 ≤ a0 then (if a0 < (t238.length : Int) then (some (rdOf ByteArray.empty t238 a0)) else (none)) else (none))))
set_option maxHeartbeats 8000000 in
set_option maxRecDepth 100000 in
theorem computusref23_Name.calls (a0 : Int) (r : ByteArray) (w : World) (h : computusref23_Name.f a0 = some r) :
    Calls Tryd.prog 12 #[.int .i64 a0] w fun e w' => e = .returned (.string r) ∧ Below w.heap.size w w' := by
  have HB := Aside0.mk (Below.refl w.heap.size w)
  have H : (if a0 < 1 then (some (⟨#[]⟩ : ByteArray)) else (if a0 > 8 then (some (⟨#[]⟩ : ByteArray)) else ((computusref23_names.f).bind fun t238 => (if 0 ≤ a0 then (if a0 < (t238.length : Int) then (some (rdOf ByteArray.empty t238 a0)) else (none)) else (none))))) = some r := h
  clear h
  by_cases c2 : a0 < 1
  · rw [if_pos c2] at H
    have c2b0 : decide (a0 < 1) = true := decide_eq_true c2
    clear c2
    obtain rfl := Option.some.inj H
    go_enter Tryd.func12, Tryd.ntmps12
    go_wp2
    go_ret
    exact ⟨by first | rfl | (simp [errW_none, errW_some] <;> rfl) | (simp [*, errW_none, errW_some] <;> rfl), by repeat (first | (with_reducible first | exact HB.out | apply below_alloc | apply pw_below_drewN | apply below_drew1) | exact HB.out)⟩
  · rw [if_neg c2] at H
    have c2b0 : decide (a0 < 1) = false := decide_eq_false c2
    clear c2
    by_cases c3 : a0 > 8
    · rw [if_pos c3] at H
      have c3b0 : decide (8 < a0) = true := decide_eq_true c3
      clear c3
      obtain rfl := Option.some.inj H
      go_enter Tryd.func12, Tryd.ntmps12
      go_wp2
      go_ret
      exact ⟨by first | rfl | (simp [errW_none, errW_some] <;> rfl) | (simp [*, errW_none, errW_some] <;> rfl), by repeat (first | (with_reducible first | exact HB.out | apply below_alloc | apply pw_below_drewN | apply below_drew1) | exact HB.out)⟩
    · rw [if_neg c3] at H
      have c3b0 : decide (8 < a0) = false := decide_eq_false c3
      clear c3
      replace H := Option.bind_eq_some_iff.mp H
      obtain ⟨t238, A40, H⟩ := H
      replace H : (if 0 ≤ a0 then (if a0 < (t238.length : Int) then (some (rdOf ByteArray.empty t238 a0)) else (none)) else (none)) = some r := H
      have A4 := Aside0.mk A40
      clear A40
      by_cases c5 : 0 ≤ a0
      · rw [if_pos c5] at H
        have c5b0 : decide (0 ≤ a0) = true := decide_eq_true c5
        clear c5
        by_cases c6 : a0 < (t238.length : Int)
        · rw [if_pos c6] at H
          have c6b0 : decide (a0 < (t238.length : Int)) = true := decide_eq_true c6
          clear c6
          obtain rfl := Option.some.inj H
          go_enter Tryd.func12, Tryd.ntmps12
          go_wp2_with (first | ((with_reducible refine gate_callee (f := 28) rfl ?_); refine goesL_ (some 9) rfl rfl Tryd.func28 (by kernel_rfl) rfl #[] rfl (by (try simp only [List.map_toArray, List.map_cons, List.map_nil]); first | done | rfl | (simp only [List.length_drop, List.length_take]; rfl)) ?_; (with_reducible refine (computusref23_names.calls  t238 _ A4.out).mono ?_); rintro e w7 ⟨v239, rfl, ho0, hb⟩; refine ⟨_, rfl, ?_⟩; have n0_ := Aside0.mk (Kd.R_lower ho0 (below_size (by repeat (first | (with_reducible first | exact HB.out | apply below_alloc | apply pw_below_drewN | apply below_drew1) | exact HB.out)))); have n1_ := Aside0.mk (below_step (by repeat (first | (with_reducible first | exact HB.out | apply below_alloc | apply pw_below_drewN | apply below_drew1) | exact HB.out)) hb); clear HB; have HO240 := n0_; have HB := n1_; clear n0_ n1_; (try clear hb); (try clear hb2); (try clear hk); (try clear hi); (try clear ho0); obtain ⟨Ao8, co8, eo8⟩ := Kd.R_slice HO240.out; subst eo8; have p241 : 0 ≤ (a0 : Int) := of_decide_eq_true (by first | (with_reducible assumption) | assumption); have q241 : a0 < (t238.length : Int) := of_decide_eq_true (by first | (with_reducible assumption) | assumption); obtain ⟨ad241, e241, hx241_0⟩ := Kd.at_string (Kd.R_reads' HO240.out).2.2 a0 p241 q241; cases e241; replace p241 := eq_true p241; replace q241 := eq_true q241))
          go_ret
          exact ⟨by first | rfl | (simp [errW_none, errW_some] <;> rfl) | (simp [*, errW_none, errW_some] <;> rfl), by repeat (first | (with_reducible first | exact HB.out | apply below_alloc | apply pw_below_drewN | apply below_drew1) | exact HB.out)⟩
        · rw [if_neg c6] at H
          exact absurd H (by simp)
      · rw [if_neg c5] at H
        exact absurd H (by simp)
def computusref23_Kind.l0 : Nat → ByteArray → Int → Option (Int)
  | 0, _, _ => none
  | k + 1, x0, x3 => if x3 ≤ 8 then ((computusref23_Name.f x3).bind fun t242 => (if t242.toList = x0.toList then (some x3) else (computusref23_Kind.l0 k x0 (wrap64 (x3 + 1))))) else (some 0)
def computusref23_Kind.f (k : Nat) (a0 : ByteArray) : Option (Int) := computusref23_Kind.l0 k a0 1
theorem computusref23_Kind.mono_l : ∀ k, (∀ y0 y1, LeO (computusref23_Kind.l0 k y0 y1) (computusref23_Kind.l0 (k + 1) y0 y1))
  | 0 => fun _ _ r h => by simp [computusref23_Kind.l0] at h
  | k + 1 => by
    have ih0 := computusref23_Kind.mono_l k
    · intro y0 y1
      unfold computusref23_Kind.l0
      repeat' first
      | (with_reducible exact ih0 _ _)
      | (with_reducible exact LeO.refl _)
      | (with_reducible exact LeO.none _)
      | (with_reducible refine LeO.ite ?_ ?_)
      | (with_reducible refine LeO.bind ?_ (fun _ => ?_))
      | exact ih0 _ _
      | exact LeO.none _
      | refine LeO.ite ?_ ?_
      | refine LeO.bind ?_ (fun _ => ?_)
theorem computusref23_Kind.mono : ∀ a0 k, LeO (computusref23_Kind.f k a0) (computusref23_Kind.f (k + 1) a0) := by
  intro a0 k
  have ih0 := computusref23_Kind.mono_l k
  unfold computusref23_Kind.f
  repeat' first
      | (with_reducible exact ih0 _ _)
      | (with_reducible exact LeO.refl _)
      | (with_reducible exact LeO.none _)
      | (with_reducible refine LeO.ite ?_ ?_)
      | (with_reducible refine LeO.bind ?_ (fun _ => ?_))
      | exact ih0 _ _
      | exact LeO.none _
      | refine LeO.ite ?_ ?_
      | refine LeO.bind ?_ (fun _ => ?_)
set_option maxHeartbeats 8000000 in
set_option maxRecDepth 100000 in
theorem computusref23_Kind.calls (k : Nat) (a0 : ByteArray) (r : Int) (w : World) (h : computusref23_Kind.f k a0 = some r) :
    Calls Tryd.prog 14 #[.string a0] w fun e w' => e = .returned (.int .i64 r) ∧ Below w.heap.size w w' := by
  have HB := Aside0.mk (Below.refl w.heap.size w)
  have H : (computusref23_Kind.l0 k a0 1) = some r := h
  clear h
  have H' := Aside0.mk H
  clear H
  go_enter Tryd.func14, Tryd.ntmps14
  go_wp2
  go_loopg [3] k (fun kq v3 w' => ∃ (x3_1 : Int), v3 = .int .i64 x3_1 ∧ Aside0 (computusref23_Kind.l0 kq a0 x3_1 = some r) ∧ Aside0 (kq ≤ k) ∧ Aside0 (Below w.heap.size w w'))
  case atStart => exact ⟨(1), (by first | rfl | (simp; done) | (simp [*]; done)), H', ⟨Nat.le_refl _⟩, ⟨by repeat (first | (with_reducible first | exact HB.out | apply below_alloc | apply pw_below_drewN | apply below_drew1) | exact HB.out)⟩⟩
  case round =>
    clear H'
    try clear c1
    obtain ⟨x3_1, rfl, HA, HK1, HB⟩ := hrel
    cases gk with
    | zero => exact absurd HA.out (by simp [computusref23_Kind.l0])
    | succ k1 =>
      have H := HA.out
      clear HA
      simp only [computusref23_Kind.l0] at H
      by_cases c2 : x3_1 ≤ 8
      · rw [if_pos c2] at H
        have c2b0 : decide (x3_1 ≤ 8) = true := decide_eq_true c2
        clear c2
        replace H := Option.bind_eq_some_iff.mp H
        obtain ⟨t242, A30, H⟩ := H
        replace H : (if t242.toList = a0.toList then (some x3_1) else (computusref23_Kind.l0 k1 a0 (wrap64 (x3_1 + 1)))) = some r := H
        have A3 := Aside0.mk A30
        clear A30
        by_cases c4 : t242.toList = a0.toList
        · rw [if_pos c4] at H
          have c4b0 : (t242.toList == a0.toList) = true := beq_iff_eq.mpr c4
          have c4b1 : (t242.toList != a0.toList) = false := bne_eq_false_iff_eq.mpr c4
          clear c4
          obtain rfl := Option.some.inj H
          go_wp2_with (first | ((with_reducible refine gate_callee (f := 12) rfl ?_); refine goesL_ (some 9) rfl rfl Tryd.func12 (by kernel_rfl) rfl #[.int .i64 x3_1] rfl (by (try simp only [List.map_toArray, List.map_cons, List.map_nil]); first | done | rfl | (simp only [List.length_drop, List.length_take]; rfl)) ?_; (with_reducible refine (computusref23_Name.calls x3_1 t242 _ A3.out).mono ?_); rintro e w5 ⟨rfl, hb⟩; refine ⟨_, rfl, ?_⟩; have n0_ := Aside0.mk (below_step (by repeat (first | (with_reducible first | exact HB.out | apply below_alloc | apply pw_below_drewN | apply below_drew1) | exact HB.out)) hb); clear HB; have HB := n0_; clear n0_; (try clear hb); (try clear hb2); (try clear hk); (try clear hi)))
          go_ret
          exact ⟨by first | rfl | (simp [errW_none, errW_some] <;> rfl) | (simp [*, errW_none, errW_some] <;> rfl), by repeat (first | (with_reducible first | exact HB.out | apply below_alloc | apply pw_below_drewN | apply below_drew1) | exact HB.out)⟩
        · rw [if_neg c4] at H
          have c4b0 : (t242.toList == a0.toList) = false := beq_eq_false_iff_ne.mpr c4
          have c4b1 : (t242.toList != a0.toList) = true := bne_iff_ne.mpr c4
          have H' := Aside0.mk H
          clear H
          go_wp2_with (first | ((with_reducible refine gate_callee (f := 12) rfl ?_); refine goesL_ (some 9) rfl rfl Tryd.func12 (by kernel_rfl) rfl #[.int .i64 x3_1] rfl (by (try simp only [List.map_toArray, List.map_cons, List.map_nil]); first | done | rfl | (simp only [List.length_drop, List.length_take]; rfl)) ?_; (with_reducible refine (computusref23_Name.calls x3_1 t242 _ A3.out).mono ?_); rintro e w6 ⟨rfl, hb⟩; refine ⟨_, rfl, ?_⟩; have n0_ := Aside0.mk (below_step (by repeat (first | (with_reducible first | exact HB.out | apply below_alloc | apply pw_below_drewN | apply below_drew1) | exact HB.out)) hb); clear HB; have HB := n0_; clear n0_; (try clear hb); (try clear hb2); (try clear hk); (try clear hi)))
          go_roundg k1
          case measure => have := HK1.out; omega
          case rel => exact ⟨(wrap64 (x3_1 + 1)), (by first | rfl | (simp; done) | (simp [*]; done)), H', ⟨by have := HK1.out; omega⟩, ⟨by repeat (first | (with_reducible first | exact HB.out | apply below_alloc | apply pw_below_drewN | apply below_drew1) | exact HB.out)⟩⟩
      · rw [if_neg c2] at H
        have c2b0 : decide (x3_1 ≤ 8) = false := decide_eq_false c2
        clear c2
        obtain rfl := Option.some.inj H
        go_wp2
        go_ret
        exact ⟨by first | rfl | (simp [errW_none, errW_some] <;> rfl) | (simp [*, errW_none, errW_some] <;> rfl), by repeat (first | (with_reducible first | exact HB.out | apply below_alloc | apply pw_below_drewN | apply below_drew1) | exact HB.out)⟩
def kind_Ops.l0 : Nat → List ByteArray → List (S50) → Int → Int → Option (List ByteArray)
  | 0, _, _, _, _ => none
  | k + 1, x1, x4, x5, x6 => if x6 < x5 then (if 0 ≤ x6 then (if x6 < (x4.length : Int) then (if x1.length < 8796093022208 then (kind_Ops.l0 k (x1 ++ [(rd_T50 x4 x6).f0]) x4 x5 (wrap64 (x6 + 1))) else (none)) else (none)) else (none)) else (some x1)
def kind_Ops.f (k : Nat)  : Option (List ByteArray) := (kind_table.f).bind fun t243 => (kind_Ops.l0 k ([] : List ByteArray) t243 (t243.length : Int) 0)
theorem kind_Ops.mono_l : ∀ k, (∀ y0 y1 y2 y3, LeO (kind_Ops.l0 k y0 y1 y2 y3) (kind_Ops.l0 (k + 1) y0 y1 y2 y3))
  | 0 => fun _ _ _ _ r h => by simp [kind_Ops.l0] at h
  | k + 1 => by
    have ih0 := kind_Ops.mono_l k
    · intro y0 y1 y2 y3
      unfold kind_Ops.l0
      repeat' first
      | (with_reducible exact ih0 _ _ _ _)
      | (with_reducible exact LeO.refl _)
      | (with_reducible exact LeO.none _)
      | (with_reducible refine LeO.ite ?_ ?_)
      | (with_reducible refine LeO.bind ?_ (fun _ => ?_))
      | exact ih0 _ _ _ _
      | exact LeO.none _
      | refine LeO.ite ?_ ?_
      | refine LeO.bind ?_ (fun _ => ?_)
theorem kind_Ops.mono : ∀ k, LeO (kind_Ops.f k ) (kind_Ops.f (k + 1) ) := by
  intro  k
  have ih0 := kind_Ops.mono_l k
  unfold kind_Ops.f
  repeat' first
      | (with_reducible exact ih0 _ _ _ _)
      | (with_reducible exact LeO.refl _)
      | (with_reducible exact LeO.none _)
      | (with_reducible refine LeO.ite ?_ ?_)
      | (with_reducible refine LeO.bind ?_ (fun _ => ?_))
      | exact ih0 _ _ _ _
      | exact LeO.none _
      | refine LeO.ite ?_ ?_
      | refine LeO.bind ?_ (fun _ => ?_)
set_option maxHeartbeats 8000000 in
set_option maxRecDepth 100000 in
theorem kind_Ops.calls (k : Nat)  (r : List ByteArray) (w : World) (h : kind_Ops.f k  = some r) :
    Calls Tryd.prog 15 #[] w fun e w' => ∃ v0_ : Value, e = .returned (v0_) ∧ Kd.R Kd.string 9 w' w.heap.size (fun _ => True) v0_ r ∧ Below w.heap.size w w' := by
  have hu50 := Tryd.underlying50
  have HB := Aside0.mk (Below.refl w.heap.size w)
  have H : ((kind_table.f).bind fun t243 => (kind_Ops.l0 k ([] : List ByteArray) t243 (t243.length : Int) 0)) = some r := h
  clear h
  replace H := Option.bind_eq_some_iff.mp H
  obtain ⟨t243, A10, H⟩ := H
  replace H : (kind_Ops.l0 k ([] : List ByteArray) t243 (t243.length : Int) 0) = some r := H
  have A1 := Aside0.mk A10
  clear A10
  have H' := Aside0.mk H
  clear H
  go_enter Tryd.func15, Tryd.ntmps15
  go_wp2_with (first | ((with_reducible refine gate_callee (f := 18) rfl ?_); refine goesL_ (some 4) rfl rfl Tryd.func18 (by kernel_rfl) rfl #[] rfl (by (try simp only [List.map_toArray, List.map_cons, List.map_nil]); first | done | rfl | (simp only [List.length_drop, List.length_take]; rfl)) ?_; (with_reducible refine (kind_table.calls  t243 _ A1.out).mono ?_); rintro e w2 ⟨v244, rfl, ho0, hb⟩; refine ⟨_, rfl, ?_⟩; have n0_ := Aside0.mk (Kd.R_lower ho0 (below_size (by repeat (first | (with_reducible first | exact HB.out | apply below_alloc | apply pw_below_drewN | apply below_drew1) | exact HB.out)))); have n1_ := Aside0.mk (below_step (by repeat (first | (with_reducible first | exact HB.out | apply below_alloc | apply pw_below_drewN | apply below_drew1) | exact HB.out)) hb); clear HB; have HO245 := n0_; have HB := n1_; clear n0_ n1_; (try clear hb); (try clear hb2); (try clear hk); (try clear hi); (try clear ho0); obtain ⟨Ao3, co3, eo3⟩ := Kd.R_slice HO245.out; subst eo3))
  go_loopg [1, 6] k (fun kq v1 v6 w' => ∃ (x1_1 : List ByteArray) (x6_1 : Int), v6 = .int .i64 x6_1 ∧ Aside0 (kind_Ops.l0 kq x1_1 t243 (t243.length : Int) x6_1 = some r) ∧ Aside0 (kq ≤ k) ∧ Aside0 (Kd.R Kd.string 9 w' w.heap.size (fun _ => True) v1 x1_1) ∧ Aside0 (Kd.R k50 50 w' w.heap.size (fun _ => True) (.slice Ao3 t243.length co3) t243) ∧ Aside0 (Below w.heap.size w w'))
  case atStart => exact ⟨(([] : List ByteArray)), (0), (by first | rfl | (simp; done) | (simp [*]; done)), H', ⟨Nat.le_refl _⟩, ⟨by first | exact Kd.R_nil _ _ _ _ _ | exact Kd.N_nil _ _ _ _ _ | exact Kd.V_nil _ _ _ _ _ | exact Kd.Q_nil _ _ _ _ _ | exact Kd.S_nil _ _ _ _ _⟩, ⟨by (with_reducible repeat (first | apply Kd.R_alloc | apply Kd.R_drewN | apply Kd.R_drew)); exact HO245.out⟩, ⟨by repeat (first | (with_reducible first | exact HB.out | apply below_alloc | apply pw_below_drewN | apply below_drew1) | exact HB.out)⟩⟩
  case round =>
    clear H'
    try clear c1
    try clear p2
    obtain ⟨x1_1, x6_1, rfl, HA, HK1, HO_1, HO_4, HB⟩ := hrel
    cases gk with
    | zero => exact absurd HA.out (by simp [kind_Ops.l0])
    | succ k1 =>
      have H := HA.out
      clear HA
      simp only [kind_Ops.l0] at H
      by_cases c4 : x6_1 < (t243.length : Int)
      · rw [if_pos c4] at H
        have c4b0 : decide (x6_1 < (t243.length : Int)) = true := decide_eq_true c4
        clear c4
        by_cases c5 : 0 ≤ x6_1
        · rw [if_pos c5] at H
          have c5b0 : decide (0 ≤ x6_1) = true := decide_eq_true c5
          clear c5
          by_cases c6 : x6_1 < (t243.length : Int)
          · rw [if_pos c6] at H
            have c6b0 : decide (x6_1 < (t243.length : Int)) = true := decide_eq_true c6
            clear c6
            by_cases c7 : x1_1.length < 8796093022208
            · rw [if_pos c7] at H
              have LMc7 := Aside0.mk c7
              clear c7
              obtain ⟨y248, hy248⟩ : ∃ y_ : List ByteArray, y_ = (x1_1 ++ [(rd_T50 t243 x6_1).f0]) := ⟨_, rfl⟩
              replace H : (kind_Ops.l0 k1 y248 t243 (t243.length : Int) (wrap64 (x6_1 + 1))) = some r := by first | (rw [hy248]; with_reducible exact H) | (have H2_ := (Option.bind_some _ _).symm.trans H; rw [hy248]; with_reducible exact H2_) | (have H2_ := (Option.bind_some _ _).symm.trans H; with_reducible exact H2_) | with_reducible exact H | (rw [hy248]; exact H) | exact H
              have Ny248 := Aside0.mk hy248
              clear hy248
              have H' := Aside0.mk H
              clear H
              have p246 : 0 ≤ (x6_1 : Int) := of_decide_eq_true (by first | (with_reducible assumption) | assumption)
              have q246 : x6_1 < (t243.length : Int) := of_decide_eq_true (by first | (with_reducible assumption) | assumption)
              obtain ⟨ad246, e246, hx246_0, hx246_1⟩ := at_T50 (Kd.R_reads' HO_4.out).2.2 x6_1 p246 q246
              cases e246
              replace p246 := eq_true p246
              replace q246 := eq_true q246
              go_wp2_with (first | ((with_reducible refine gate_dst (N := 3) rfl ?_); refine box_event ?hg (N := 3) ?hd (cs := #[.string (⟨#[]⟩ : ByteArray), .string (⟨#[]⟩ : ByteArray)]) (t := 50) ?hr ?_; (case hd => rfl); (case hg => rfl); (case hr => first | (go_simp; done) | (go_simp; rfl)); intro gb247 hg w8 hbox hb; have n0_ := Aside0.mk (Kd.R_below (by (with_reducible repeat (first | apply Kd.R_alloc | apply Kd.R_drewN | apply Kd.R_drew)); exact HO_1.out) hb); have n1_ := Aside0.mk (Kd.R_below (Kd.R_elderB (by (with_reducible repeat (first | apply Kd.R_alloc | apply Kd.R_drewN | apply Kd.R_drew)); exact HO_4.out) gb247 (Nat.le_of_eq hg.symm)) hb); have n2_ := Aside0.mk (below_step (by repeat (first | (with_reducible first | exact HB.out | apply below_alloc | apply pw_below_drewN | apply below_drew1) | exact HB.out)) hb); have n3_ := Aside0.mk (hbox); have n4_ := Aside0.mk ((by rw [hg]; exact (below_size (by repeat (first | (with_reducible first | exact HB.out | apply below_alloc | apply pw_below_drewN | apply below_drew1) | exact HB.out))) : w.heap.size ≤ gb247)); have n5_ := Aside0.mk ((by rw [hg]; exact (below_size (by repeat (first | (with_reducible first | exact HB.out | apply below_alloc | apply pw_below_drewN | apply below_drew1) | exact HB.out))) : w.heap.size ≤ gb247)); clear HO_1; clear HO_4; clear HB; have HO_1 := n0_; have HO_4 := n1_; have HB := n2_; have BK247 := n3_; have GW247 := n4_; have GE247 := n5_; clear n0_ n1_ n2_ n3_ n4_ n5_; clear hb hbox hg; have hcz9_0 : w8.cell? ⟨gb247, 0, none⟩ = some (.string (⟨#[]⟩ : ByteArray)) := (blk_cell BK247.out 0).trans rfl; have hcz9_1 : w8.cell? ⟨gb247, 1, none⟩ = some (.string (⟨#[]⟩ : ByteArray)) := (blk_cell BK247.out 1).trans rfl; have hfz9_0 := blk_frozen BK247.out 0; have hfz9_1 := blk_frozen BK247.out 1) | ((with_reducible refine gate_builtin (b := .append) (xs := #[.tmp 10, .tmp 13]) rfl ?_); at_builtin; refine Kd.R_append Kd.string (w0 := w) w.heap.size rfl (.tmp 10) (.tmp 13) 37 9 (.string ⟨#[]⟩) 16 rfl Tryd.underlying37 info9 rfl (by decide) (by omega) u1 x1_1 ((rd_T50 t243 x6_1).f0) [.string ((rd_T50 t243 x6_1).f0)] (fun _ => True) (fun _ => False) rfl (by first | (go_simp; done) | (go_simp; rfl)) ?aP (fun _ hk => hk.elim) ?aF ?aO ?aB ?aS ?aL ?_; (case aP => exact rfl); (case aB => exact (by repeat (first | (with_reducible first | exact HB.out | apply below_alloc | apply pw_below_drewN | apply below_drew1 | refine below_set ?_ GE247.out) | exact HB.out))); (case aF => exact (fun _ _ => trivial)); (case aO => exact (by (with_reducible repeat (first | apply Kd.R_alloc | apply Kd.R_drewN | apply Kd.R_drew)); exact Kd.R_mono (Kd.R_far (p := ⟨gb247, 1, none⟩) (Kd.R_far (p := ⟨gb247, 0, none⟩) (Kd.R_types HO_1.out BK247.out (by decide)) (fun _ hk => hk.2) (.string ((rd_T50 t243 x6_1).f0))) (fun _ hk => hk.2) (.string ((rd_T50 t243 x6_1).f1))) (fun _ hk => trivial))); (case aS => exact (below_size (by repeat (first | (with_reducible first | exact HB.out | apply below_alloc | apply pw_below_drewN | apply below_drew1 | refine below_set ?_ GE247.out) | exact HB.out)))); (case aL => have := LMc7.out; omega); intro v249 w10 ho hb hg hat; rw [← Ny248.out] at ho; have n0_ := Aside0.mk (Kd.R_over' (by (with_reducible repeat (first | apply Kd.R_alloc | apply Kd.R_drewN | apply Kd.R_drew)); exact (Kd.R_mono (Kd.R_far (p := ⟨gb247, 1, none⟩) (Kd.R_far (p := ⟨gb247, 0, none⟩) (Kd.R_mono HO_4.out (fun k_ hk => (⟨hk, hk.2⟩ : _ ∧ k_ ≠ gb247))) (fun _ hk => hk.2) (.string ((rd_T50 t243 x6_1).f0))) (fun _ hk => hk.2) (.string ((rd_T50 t243 x6_1).f1))) (fun _ h_ => h_.1))) (Kd.R_typed (by (with_reducible repeat (first | apply Kd.R_alloc | apply Kd.R_drewN | apply Kd.R_drew)); exact (Kd.R_mono (Kd.R_far (p := ⟨gb247, 1, none⟩) (Kd.R_far (p := ⟨gb247, 0, none⟩) (Kd.R_types HO_1.out BK247.out (by decide)) (fun _ hk => hk.2) (.string ((rd_T50 t243 x6_1).f0))) (fun _ hk => hk.2) (.string ((rd_T50 t243 x6_1).f1))) (fun _ h_ => h_.1)))) (by decide) hg); have n1_ := Aside0.mk (blk_grown (g := gb247) (o := .cells #[.string ((rd_T50 t243 x6_1).f0), .string ((rd_T50 t243 x6_1).f1)] 50 (0, 0)) (by (with_reducible repeat (first | refine blk_drewN ?_ _ | refine blk_drew ?_ | refine blk_alloc ?_ _)); refine blk_put (cs := #[.string ((rd_T50 t243 x6_1).f0), .string (⟨#[]⟩ : ByteArray)]) ?_ 1 _ rfl; (with_reducible repeat (first | refine blk_drewN ?_ _ | refine blk_drew ?_ | refine blk_alloc ?_ _)); refine blk_put (cs := #[.string (⟨#[]⟩ : ByteArray), .string (⟨#[]⟩ : ByteArray)]) ?_ 0 _ rfl; (with_reducible repeat (first | refine blk_drewN ?_ _ | refine blk_drew ?_ | refine blk_alloc ?_ _)); exact BK247.out) hg (Kd.R_ne HO_1.out BK247.out (by decide))); have n2_ := Aside0.mk (hb); have n3_ := Aside0.mk (ho); clear HO_4; clear BK247; clear HB; clear HO_1; have HO_4 := n0_; have BK247 := n1_; have HB := n2_; have HO250 := n3_; clear n0_ n1_ n2_ n3_; clear ho hb hg hat))
              go_roundg k1
              case measure => have := HK1.out; omega
              case rel => exact ⟨(y248), (wrap64 (x6_1 + 1)), (by first | rfl | (simp; done) | (simp [*]; done)), H', ⟨by have := HK1.out; omega⟩, ⟨by (with_reducible repeat (first | apply Kd.R_alloc | apply Kd.R_drewN | apply Kd.R_drew)); exact HO250.out⟩, ⟨by (with_reducible repeat (first | apply Kd.R_alloc | apply Kd.R_drewN | apply Kd.R_drew)); exact Kd.R_mono HO_4.out (fun _ hk => trivial)⟩, ⟨by repeat (first | (with_reducible first | exact HB.out | apply below_alloc | apply pw_below_drewN | apply below_drew1 | refine below_set ?_ GE247.out) | exact HB.out)⟩⟩
            · rw [if_neg c7] at H
              exact absurd H (by simp)
          · rw [if_neg c6] at H
            exact absurd H (by simp)
        · rw [if_neg c5] at H
          exact absurd H (by simp)
      · rw [if_neg c4] at H
        have c4b0 : decide (x6_1 < (t243.length : Int)) = false := decide_eq_false c4
        clear c4
        obtain rfl := Option.some.inj H
        go_wp2
        go_ret
        exact ⟨_, by first | rfl | (simp [errW_none, errW_some] <;> rfl) | (simp [*, errW_none, errW_some] <;> rfl), by (with_reducible repeat (first | apply Kd.R_alloc | apply Kd.R_drewN | apply Kd.R_drew)); exact HO_1.out, by repeat (first | (with_reducible first | exact HB.out | apply below_alloc | apply pw_below_drewN | apply below_drew1) | exact HB.out)⟩
end Go.Proofs.YtfgogfdbjbnlbaaDoor.PExpr
end
