/- Lists of lines that are alike; lines that are right, numbered. -/
import Derived.Test.YtohhmnbcaflppaaDoorLLemB
namespace Go.Proofs.YtohhmnbcaflppaaDoor.LNum
open Go.RowKit Go.Proofs.YtohhmnbcaflppaaDoor.PLine Go.Proofs.YtohhmnbcaflppaaDoor.Rd Go.Proofs.YtohhmnbcaflppaaDoorW.PrintWords Go.Proofs.YtohhmnbcaflppaaDoorW.PrintLast Go.Proofs.YtohhmnbcaflppaaDoorW.PrintMore
set_option linter.unusedVariables false
set_option linter.unusedSimpArgs false
/-- Alike: the same fields; with the numbers, or without. -/
def Like (b : Bool) : List S44 → List S44 → Prop
  | [], [] => True
  | x :: r, y :: t => x.f1 = y.f1 ∧ (b = true → x.f0 = y.f0) ∧ Like b r t
  | _, _ => False
theorem like_len (b : Bool) : ∀ (l m : List S44), Like b l m → l.length = m.length
  | [], [], _ => rfl
  | x :: r, y :: t, h => by rw [List.length_cons, List.length_cons, like_len b r t h.2.2]
  | [], y :: t, h => h.elim
  | x :: r, [], h => h.elim
theorem like_get (b : Bool) : ∀ (l m : List S44) (h : Like b l m) (i : Nat) (h1 : i < l.length) (h2 : i < m.length), l[i].f1 = m[i].f1 ∧ (b = true → l[i].f0 = m[i].f0)
  | x :: r, y :: t, h, 0, _, _ => ⟨h.1, h.2.1⟩
  | x :: r, y :: t, h, i + 1, h1, h2 => like_get b r t h.2.2 i (by simpa using h1) (by simpa using h2)
  | [], _, _, _, h1, _ => absurd h1 (by simp)
  | x :: r, [], h, _, _, _ => h.elim
theorem same_ev (b : Bool) (A B : List S44) (hL : Like b A B) (hA : A.length ≤ 4000000000) (hF : ∀ x ∈ A, x.f1.length ≤ 4000000000) : Ev (fun k => computusref06_Same.f k A B b) true := by
  have hlen := like_len b A B hL
  have outer : ∀ (d i : Nat), i + d = A.length → Ev (fun k => computusref06_Same.l0 k A B b (i : Int)) true := by
    intro d
    induction d with
    | zero =>
      intro i hd
      exact Ev.step (f := fun _ => some true) (fun k => by rw [computusref06_Same.l0, if_neg (by omega)]) (Ev.now _)
    | succ d ih =>
      intro i hd
      have hi : i < A.length := by omega
      have hj : i < B.length := by omega
      have hg := like_get b A B hL i hi hj
      have hb := hF A[i] (List.getElem_mem hi)
      have inner : ∀ (e j : Nat), j + e = A[i].f1.length → Ev (fun k => computusref06_Same.l1 k A B b (i : Int) (j : Int)) true := by
        intro e
        induction e with
        | zero =>
          intro j he
          refine Ev.step (f := fun k => computusref06_Same.l0 k A B b ((i + 1 : Nat) : Int)) (fun k => ?_) (ih (i + 1) (by omega))
          rw [computusref06_Same.l1, if_pos (by omega), if_pos (by omega), rd_44 A i hi, if_neg (by omega), w64 _ (by omega) (by omega)]
          rfl
        | succ e ihe =>
          intro j he
          refine Ev.step (f := fun k => computusref06_Same.l1 k A B b (i : Int) ((j + 1 : Nat) : Int)) (fun k => ?_) (ihe (j + 1) (by omega))
          rw [computusref06_Same.l1, if_pos (by omega), if_pos (by omega), rd_44 A i hi, rd_44 B i hj, if_pos (by omega), if_pos (by omega), if_pos (by omega), ← hg.1, if_pos (by omega), if_pos rfl, w64 _ (by omega) (by omega)]
          rfl
      have hl : (((A[i].f1).length : Int) != ((B[i].f1).length : Int)) = false := by rw [hg.1]; simp
      refine Ev.step (f := fun k => computusref06_Same.j1 k A B b (i : Int) false) (fun k => ?_) ?_
      · rw [computusref06_Same.l0, if_pos (by omega), rd_44 A i hi, rd_44 B i hj, hl]
        cases b with
        | true => rw [if_pos rfl, if_pos (by omega), if_pos (by omega), if_pos (hg.2 rfl)]
        | false => rw [if_neg Bool.false_ne_true, if_pos (by omega), if_pos (by omega)]
      · exact Ev.step (fun k => by rw [computusref06_Same.j1, if_neg Bool.false_ne_true]; rfl) (inner _ 0 (Nat.zero_add _))
  unfold computusref06_Same.f
  exact Ev.congr (fun k => if_pos (by omega)) (outer A.length 0 (Nat.zero_add _))
theorem like_refl (b : Bool) : ∀ l : List S44, Like b l l
  | [] => trivial
  | x :: r => ⟨rfl, fun _ => rfl, like_refl b r⟩
theorem like_map (l m : List S43) (h : l.map S43.f1 = m.map S43.f1) : Like false (l.map to44) (m.map to44) := by
  induction l generalizing m with
  | nil =>
    cases m with
    | nil => trivial
    | cons y t => simp at h
  | cons x r ih =>
    cases m with
    | nil => simp at h
    | cons y t =>
      rw [List.map_cons, List.map_cons] at h
      injection h with h1 h2
      exact ⟨h1, fun q => absurd q (by decide), ih t h2⟩
/-! Lines that are right. -/
def Ok (ys : List ByteArray) : Prop := ∀ p ∈ ys, (fieldsR p).2 = true ∧ (fieldsR p).1.length ≤ 16
/-- The lines that have fields, numbered from a line on. -/
def num : List ByteArray → Int → List S43
  | [], _ => []
  | p :: r, i => if (fieldsR p).1.length = 0 then num r (i + 1) else ⟨i + 1, (fieldsR p).1⟩ :: num r (i + 1)
theorem num_app : ∀ (xs ys : List ByteArray) (i : Int), num (xs ++ ys) i = num xs i ++ num ys (i + xs.length)
  | [], ys, i => by simp [num]
  | p :: r, ys, i => by
    have ih := num_app r ys (i + 1)
    rw [List.cons_append, num, num, ih, List.length_cons, show i + 1 + (r.length : Int) = i + ((r.length + 1 : Nat) : Int) by omega]
    split <;> rfl
theorem num_f1 : ∀ (xs : List ByteArray) (i j : Int), (num xs i).map S43.f1 = (num xs j).map S43.f1
  | [], _, _ => rfl
  | p :: r, i, j => by
    have ih := num_f1 r (i + 1) (j + 1)
    rw [num, num]
    split
    · exact ih
    · rw [List.map_cons, List.map_cons, ih]
theorem num_len (xs : List ByteArray) (i j : Int) : (num xs i).length = (num xs j).length := by
  have := congrArg List.length (num_f1 xs i j)
  rwa [List.length_map, List.length_map] at this
theorem num_mem : ∀ (xs : List ByteArray) (i : Int), Ok xs → ∀ x ∈ num xs i, ∃ p ∈ xs, x.f1 = (fieldsR p).1 ∧ 0 < x.f1.length ∧ x.f1.length ≤ 16
  | [], _, _, x, hx => by cases hx
  | p :: r, i, h, x, hx => by
    have ih := num_mem r (i + 1) (fun q hq => h q (List.mem_cons_of_mem _ hq)) x
    rw [num] at hx
    split at hx
    · obtain ⟨q, hq, h2⟩ := ih hx
      exact ⟨q, List.mem_cons_of_mem _ hq, h2⟩
    · rename_i h0
      rcases List.mem_cons.1 hx with rfl | hx
      · exact ⟨p, List.mem_cons_self, rfl, Nat.pos_of_ne_zero h0, (h p List.mem_cons_self).2⟩
      · obtain ⟨q, hq, h2⟩ := ih hx
        exact ⟨q, List.mem_cons_of_mem _ hq, h2⟩
/-- What comes of lines that are right. -/
theorem spL_of : ∀ (ys : List ByteArray) (i : Int) (out : List S43), Ok ys → out.length + (num ys i).length ≤ 400 → spL ys i out = (out ++ num ys i, 0, 0)
  | [], i, out, _, _ => by simp [spL, num]
  | p :: r, i, out, h, hl => by
    have hp := h p List.mem_cons_self
    have hr : Ok r := fun q hq => h q (List.mem_cons_of_mem _ hq)
    rw [num] at hl
    rw [spL, if_neg (by rw [hp.1]; decide), num]
    by_cases h0 : (fieldsR p).1.length = 0
    · rw [if_pos h0] at hl
      rw [if_pos h0, if_pos h0]
      exact spL_of r (i + 1) out hr hl
    · rw [if_neg h0] at hl
      rw [if_neg h0, if_neg h0]
      rw [List.length_cons] at hl
      have := hp.2
      rw [if_neg (by omega), spL_of r (i + 1) _ hr (by rw [List.length_append]; show out.length + 1 + _ ≤ 400; omega)]
      simp
/-- And of any lines, where no error comes. -/
theorem spL_ok : ∀ (ys : List ByteArray) (i : Int) (out : List S43), out.length ≤ 400 → ((spL ys i out).2.2 = 0 ∧ Ok ys ∧ out.length + (num ys i).length ≤ 400) ∨ ((spL ys i out).2.2 ≠ 0 ∧ (spL ys i out).1 = [])
  | [], i, out, ho => .inl ⟨rfl, (fun p hp => by cases hp), by simpa [num] using ho⟩
  | p :: r, i, out, ho => by
    rw [spL, num]
    by_cases hk : (fieldsR p).2 = false
    · rw [if_pos hk]
      exact .inr ⟨(by show (21 : Int) ≠ 0; decide), rfl⟩
    · rw [if_neg hk]
      have hk2 : (fieldsR p).2 = true := by simpa using hk
      by_cases h0 : (fieldsR p).1.length = 0
      · rw [if_pos h0, if_pos h0]
        rcases spL_ok r (i + 1) out ho with ⟨h1, h2, h3⟩ | h
        · exact .inl ⟨h1, (fun q hq => by
            rcases List.mem_cons.1 hq with rfl | hq
            · exact ⟨hk2, by omega⟩
            · exact h2 q hq), h3⟩
        · exact .inr h
      · rw [if_neg h0, if_neg h0]
        by_cases hc : 16 < (fieldsR p).1.length ∨ out.length = 400
        · rw [if_pos hc]
          exact .inr ⟨(by show (3 : Int) ≠ 0; decide), rfl⟩
        · rw [if_neg hc]
          have hlen : (out ++ [(⟨i + 1, (fieldsR p).1⟩ : S43)]).length = out.length + 1 := by rw [List.length_append]; rfl
          rcases spL_ok r (i + 1) (out ++ [⟨i + 1, (fieldsR p).1⟩]) (by rw [hlen]; omega) with ⟨h1, h2, h3⟩ | h
          · rw [hlen] at h3
            exact .inl ⟨h1, (fun q hq => by
              rcases List.mem_cons.1 hq with rfl | hq
              · exact ⟨hk2, by omega⟩
              · exact h2 q hq), by rw [List.length_cons]; omega⟩
          · exact .inr h
/-- What a source's lines are. -/
theorem split_cases (s : ByteArray) (r : List S43 × Int × Int) (h : line_Split.f s = some r) : (r.2.2 = 0 ∧ s.size ≤ 8192 ∧ Ok (linesOf s) ∧ (num (linesOf s) 0).length ≤ 400 ∧ r = (num (linesOf s) 0, 0, 0)) ∨ (r.2.2 ≠ 0 ∧ r.1 = []) := by
  unfold line_Split.f at h
  by_cases hz : 8192 < s.size
  · rw [if_pos hz] at h
    obtain rfl := Option.some.inj h
    exact .inr ⟨(by show (3 : Int) ≠ 0; decide), rfl⟩
  · rw [if_neg hz] at h
    obtain rfl := Option.some.inj h
    rcases spL_ok (linesOf s) 0 [] (Nat.zero_le _) with ⟨h1, h2, h3⟩ | h
    · have h4 : (num (linesOf s) 0).length ≤ 400 := by simpa using h3
      exact .inl ⟨h1, by omega, h2, h4, by rw [spL_of _ _ _ h2 h3]; rfl⟩
    · exact .inr h
theorem split_of (s : ByteArray) (hz : s.size ≤ 8192) (h : Ok (linesOf s)) (hl : (num (linesOf s) 0).length ≤ 400) : line_Split.f s = some (num (linesOf s) 0, 0, 0) := by
  unfold line_Split.f
  rw [if_neg (by omega), spL_of _ _ _ h (by simpa using hl)]
  rfl
theorem split_small (s : ByteArray) (r : List S43 × Int × Int) (h : line_Split.f s = some r) : r.1.length ≤ 400 ∧ ∀ x ∈ r.1, x.f1.length ≤ 16 := by
  rcases split_cases s r h with ⟨_, _, h2, h3, rfl⟩ | ⟨_, h1⟩
  · exact ⟨h3, fun x hx => (num_mem _ _ h2 x hx).choose_spec.2.2.2⟩
  · rw [h1]
    exact ⟨Nat.zero_le _, fun x hx => by cases hx⟩
theorem same_lines (b : Bool) (A B : List S43) (h : Like b (A.map to44) (B.map to44)) (hA : A.length ≤ 4000) (hF : ∀ x ∈ A, x.f1.length ≤ 16) : Ev (fun k => computusref06_Same.f k (A.map to44) (B.map to44) b) true := by
  refine same_ev b _ _ h (by rw [List.length_map]; omega) (fun x hx => ?_)
  obtain ⟨y, hy, rfl⟩ := List.mem_map.1 hx
  have := hF y hy
  show y.f1.length ≤ _
  omega
end Go.Proofs.YtohhmnbcaflppaaDoor.LNum
