/- Lines as a source, split again. -/
import Derived.Test.YtohhmnbcaflppaaDoorLLemD
namespace Go.Proofs.YtohhmnbcaflppaaDoor.LNum
open Go.RowKit Go.Proofs.YtohhmnbcaflppaaDoor.PLine Go.Proofs.YtohhmnbcaflppaaDoor.Rd Go.Proofs.YtohhmnbcaflppaaDoorW.PrintWords Go.Proofs.YtohhmnbcaflppaaDoorW.PrintLast Go.Proofs.YtohhmnbcaflppaaDoorW.PrintMore
set_option linter.unusedVariables false
set_option linter.unusedSimpArgs false
theorem field_no10 (f : ByteArray) (h : CleanF f) : (10 : UInt8) ∉ (fieldB f).data.toList := by
  have h1 : (10 : UInt8) ∉ f.data.toList := fun q => by
    have := h 10 q
    unfold Clean at this
    have e : (10 : UInt8).toNat = 10 := rfl
    rw [e] at this
    omega
  rw [field_data]
  split
  · intro q
    rcases List.mem_cons.1 q with q | q
    · exact absurd q (by decide)
    · rcases List.mem_append.1 q with q | q
      · exact h1 q
      · exact absurd (List.mem_singleton.1 q) (by decide)
  · exact h1
theorem line_no10 : ∀ (fs : List ByteArray) (b : Bool), (∀ f ∈ fs, CleanF f) → (10 : UInt8) ∉ lineL b fs
  | [], b, _ => by intro q; cases b <;> exact absurd q (by simp [lineL])
  | f :: r, b, h => by
    have ih := line_no10 r false (fun g hg => h g (List.mem_cons_of_mem _ hg))
    have hf := field_no10 f (h f List.mem_cons_self)
    rw [lineL]
    intro q
    rcases List.mem_append.1 q with q | q
    · rcases List.mem_append.1 q with q | q
      · cases b with
        | true => exact absurd q (by simp)
        | false => exact absurd q (by simp)
      · exact hf q
    · exact ih q
/-- Lines that can be written and read again. -/
def Good (l : List S43) : Prop := ∀ x ∈ l, x.f1 ≠ [] ∧ x.f1.length ≤ 16 ∧ ∀ f ∈ x.f1, CleanF f ∧ f.size ≤ 8192
theorem nl_join : ∀ (l : List S43), Good l → nlS (joinL l) = l.map (fun x => lineL true x.f1) ++ [[]]
  | [], _ => rfl
  | x :: r, h => by
    have ih := nl_join r (fun y hy => h y (List.mem_cons_of_mem _ hy))
    rw [joinL, nlS_cut _ _ (line_no10 x.f1 true (fun f hf => ((h x List.mem_cons_self).2.2 f hf).1)), ih]
    rfl
theorem fields_nil : fieldsR ⟨([] : List UInt8).toArray⟩ = ([], true) := rfl
theorem join_fields (l : List S43) (h : Good l) : Ok (asB (nlS (joinL l))) ∧ ∀ i, (num (asB (nlS (joinL l))) i).map S43.f1 = l.map S43.f1 := by
  rw [nl_join l h]
  induction l with
  | nil =>
    refine ⟨fun p hp => ?_, fun i => rfl⟩
    obtain rfl := List.mem_singleton.1 hp
    exact ⟨rfl, Nat.zero_le _⟩
  | cons x r ih =>
    have hx := h x List.mem_cons_self
    have hf := rd_line x.f1 hx.1 (fun f hf => (hx.2.2 f hf).1)
    obtain ⟨h1, h2⟩ := ih (fun y hy => h y (List.mem_cons_of_mem _ hy))
    have e : asB ((x :: r).map (fun x => lineL true x.f1) ++ [[]]) = ⟨(lineL true x.f1).toArray⟩ :: asB (r.map (fun x => lineL true x.f1) ++ [[]]) := rfl
    rw [e]
    refine ⟨fun p hp => ?_, fun i => ?_⟩
    · rcases List.mem_cons.1 hp with rfl | hp
      · rw [hf]
        exact ⟨rfl, hx.2.1⟩
      · exact h1 p hp
    · rw [num, hf]
      have hl : ¬ x.f1.length = 0 := fun q => hx.1 (List.length_eq_zero_iff.1 q)
      rw [if_neg hl, List.map_cons, h2 (i + 1)]
      rfl
theorem line_len : ∀ (fs : List ByteArray) (b : Bool), (∀ f ∈ fs, f.size ≤ 8192) → (lineL b fs).length ≤ fs.length * 8195
  | [], b, _ => by cases b <;> simp [lineL]
  | f :: r, b, h => by
    have ih := line_len r false (fun g hg => h g (List.mem_cons_of_mem _ hg))
    have hf := fieldB_size f
    have hs := h f List.mem_cons_self
    have hl : (fieldB f).data.toList.length = (fieldB f).size := Utf.len_list _
    have hb : (if b = true then ([] : List UInt8) else [32]).length ≤ 1 := by cases b <;> simp
    rw [lineL, List.length_append, List.length_append, List.length_cons]
    omega
theorem join_len : ∀ (l : List S43), Good l → (joinL l).length ≤ l.length * 140000
  | [], _ => by simp [joinL]
  | x :: r, h => by
    have ih := join_len r (fun y hy => h y (List.mem_cons_of_mem _ hy))
    have hx := h x List.mem_cons_self
    have h1 := line_len x.f1 true (fun f hf => (hx.2.2 f hf).2)
    have h2 := hx.2.1
    rw [joinL, List.length_append, List.length_cons, List.length_cons]
    omega
/-- What a source gives can be written and read again. -/
theorem good_of (s : ByteArray) (hz : s.size ≤ 8192) (h : Ok (linesOf s)) (i : Int) : Good (num (linesOf s) i) := by
  intro x hx
  obtain ⟨p, hp, h1, h2, h3⟩ := num_mem _ _ h x hx
  refine ⟨fun q => by rw [q] at h2; exact absurd h2 (by decide), h3, fun f hf => ?_⟩
  rw [h1] at hf
  have hc := clean_fields p f hf
  have := lines_size s p hp
  exact ⟨hc.1, by omega⟩
end Go.Proofs.YtohhmnbcaflppaaDoor.LNum
