/- What is left out changes nothing; two sources, one behind the other. -/
import Derived.Test.YtohhmnbcaflppaaDoorLLemE
namespace Go.Proofs.YtohhmnbcaflppaaDoor.LNum
open Go.RowKit Go.Proofs.YtohhmnbcaflppaaDoor.PLine Go.Proofs.YtohhmnbcaflppaaDoor.Rd Go.Proofs.YtohhmnbcaflppaaDoorW.PrintWords Go.Proofs.YtohhmnbcaflppaaDoorW.PrintLast Go.Proofs.YtohhmnbcaflppaaDoorW.PrintMore
set_option linter.unusedVariables false
set_option linter.unusedSimpArgs false
theorem nl_last : ∀ (a : List UInt8), ∃ init last, nlS a = init ++ [last] ∧ ∀ c : List UInt8, (10 : UInt8) ∉ c → nlS (a ++ c) = init ++ [last ++ c]
  | [] => ⟨[], [], rfl, fun c hc => by rw [List.nil_append, nlS_one c hc]; rfl⟩
  | b :: t => by
    obtain ⟨init, last, h1, h2⟩ := nl_last t
    by_cases hb : b = 10
    · refine ⟨[] :: init, last, by rw [nlS, if_pos hb, h1]; rfl, fun c hc => ?_⟩
      rw [List.cons_append, nlS, if_pos hb, h2 c hc]
      rfl
    · cases init with
      | nil =>
        refine ⟨[], b :: last, by rw [nlS, if_neg hb, h1]; rfl, fun c hc => ?_⟩
        rw [List.cons_append, nlS, if_neg hb, h2 c hc]
        rfl
      | cons x r =>
        refine ⟨(b :: x) :: r, last, by rw [nlS, if_neg hb, h1]; rfl, fun c hc => ?_⟩
        rw [List.cons_append, nlS, if_neg hb, h2 c hc]
        rfl
theorem nl_two : ∀ (a c : List UInt8), nlS (a ++ 10 :: c) = nlS a ++ nlS c
  | [], c => by
    show nlS (10 :: c) = [] :: nlS c
    rw [nlS, if_pos rfl]
  | b :: t, c => by
    have ih := nl_two t c
    have e := nlS_ne t
    rw [List.cons_append, nlS, nlS]
    by_cases hb : b = 10
    · rw [if_pos hb, if_pos hb, ih]
      rfl
    · rw [if_neg hb, if_neg hb, ih]
      generalize nlS t = x at e
      cases x with
      | nil => exact absurd e (by simp)
      | cons y r => rfl
theorem num_congr : ∀ (xs ys : List ByteArray) (i : Int), xs.map fieldsR = ys.map fieldsR → num xs i = num ys i
  | [], [], _, _ => rfl
  | [], y :: ys, _, h => by simp at h
  | x :: xs, [], _, h => by simp at h
  | x :: xs, y :: ys, i, h => by
    rw [List.map_cons, List.map_cons] at h
    injection h with h1 h2
    rw [num, num, h1, num_congr xs ys (i + 1) h2]
theorem ok_congr (xs ys : List ByteArray) (h : xs.map fieldsR = ys.map fieldsR) (hx : Ok xs) : Ok ys := by
  intro p hp
  have h1 : fieldsR p ∈ ys.map fieldsR := List.mem_map_of_mem hp
  rw [← h] at h1
  obtain ⟨q, hq, e⟩ := List.mem_map.1 h1
  have := hx q hq
  rw [e] at this
  exact this
/-- Bytes that may stand in what is left out. -/
def Vis (t : List UInt8) : Prop := ∀ b ∈ t, 32 ≤ b.toNat ∧ b.toNat ≤ 126
theorem rd_rest : ∀ (t : List UInt8) (st : RS), st.br = true → Vis t → rdL t st = some st
  | [], st, _, _ => rfl
  | b :: t, st, hr, h => by
    have hb := h b List.mem_cons_self
    have hs : st.step (b.toNat : Int) = some st := by
      unfold RS.step
      rw [if_neg (by unfold Bad; omega), if_pos hr]
    rw [rdL, hs]
    exact rd_rest t st hr (fun x hx => h x (List.mem_cons_of_mem _ hx))
theorem fields_rest (p : ByteArray) (t : List UInt8) (h : (fieldsR p).2 = true) (ht : Vis t) : fieldsR ⟨(p.data.toList ++ 35 :: t).toArray⟩ = fieldsR p := by
  unfold fieldsR at h ⊢
  show out (rdL (p.data.toList ++ 35 :: t) z0) = _
  rw [rd_app]
  cases hr : rdL p.data.toList z0 with
  | none => rfl
  | some st =>
    rw [hr] at h
    obtain ⟨l, acc, bi, bo, br⟩ := st
    have hbo : bo = false := by
      have : (!bo) = true := h
      cases bo with
      | true => exact absurd this (by decide)
      | false => rfl
    subst hbo
    cases br with
    | true =>
      show out (rdL (35 :: t) ⟨l, acc, bi, false, true⟩) = _
      have hs : RS.step ⟨l, acc, bi, false, true⟩ 35 = some ⟨l, acc, bi, false, true⟩ := by
        unfold RS.step
        rw [if_neg (by decide), if_pos rfl]
      rw [rdL, show (((35 : UInt8).toNat : Nat) : Int) = 35 from rfl, hs]
      show out (rdL t ⟨l, acc, bi, false, true⟩) = _
      rw [rd_rest t _ rfl ht]
    | false =>
      show out (rdL (35 :: t) ⟨l, acc, bi, false, false⟩) = _
      have hs : RS.step ⟨l, acc, bi, false, false⟩ 35 = some ⟨ended l acc bi, [], false, false, true⟩ := by
        unfold RS.step
        rw [if_neg (by decide), if_neg Bool.false_ne_true, if_neg (by decide), if_neg Bool.false_ne_true, if_pos rfl]
      rw [rdL, show (((35 : UInt8).toNat : Nat) : Int) = 35 from rfl, hs]
      show out (rdL t ⟨ended l acc bi, [], false, false, true⟩) = _
      rw [rd_rest t _ rfl ht]
      rfl
theorem rest_lines (s t : ByteArray) (hok : Ok (linesOf s)) (ht : Vis t.data.toList) : (linesOf (s ++ ⟨#[35]⟩ ++ t)).map fieldsR = (linesOf s).map fieldsR := by
  have hd : (s ++ ⟨#[35]⟩ ++ t).data.toList = s.data.toList ++ 35 :: t.data.toList := by
    rw [ByteArray.data_append, ByteArray.data_append, Array.toList_append, Array.toList_append, List.append_assoc]
    rfl
  obtain ⟨init, last, h1, h2⟩ := nl_last s.data.toList
  have hno : (10 : UInt8) ∉ 35 :: t.data.toList := by
    intro q
    rcases List.mem_cons.1 q with q | q
    · exact absurd q (by decide)
    · have := ht 10 q
      have e : (10 : UInt8).toNat = 10 := rfl
      omega
  have hl : (fieldsR ⟨last.toArray⟩).2 = true := (hok ⟨last.toArray⟩ (by rw [lines_asB, h1]; unfold asB; rw [List.map_append]; exact List.mem_append_right _ List.mem_cons_self)).1
  rw [lines_asB, lines_asB, hd, h2 _ hno, h1]
  unfold asB
  rw [List.map_append, List.map_append, List.map_append, List.map_append, List.map_cons, List.map_cons, List.map_cons, List.map_cons, List.map_nil, List.map_nil]
  have := fields_rest ⟨last.toArray⟩ t.data.toList hl ht
  rw [this]
theorem two_lines (a b : ByteArray) : linesOf (a ++ ⟨#[10]⟩ ++ b) = linesOf a ++ linesOf b := by
  have hd : (a ++ ⟨#[10]⟩ ++ b).data.toList = a.data.toList ++ 10 :: b.data.toList := by
    rw [ByteArray.data_append, ByteArray.data_append, Array.toList_append, Array.toList_append, List.append_assoc]
    rfl
  rw [lines_asB, hd, nl_two]
  unfold asB
  rw [List.map_append]
  rfl
end Go.Proofs.YtohhmnbcaflppaaDoor.LNum
