/- word.Split and the reference's Split answer alike: plain Lean over the printed functions. Conditions: none but a text's own. -/
import Derived.Test.YtlpbjpkjmagodaaLem
namespace Go.Proofs.Ytlpbjpkjmagodaa.Lem
open Go.RowKit Go.Proofs.Ytlpbjpkjmagodaa.PWord Go.Proofs.Ytlpbjpkjmagodaa.Utf Go.Proofs.YtlpbjpkjmagodaaW.PrintWords Go.Proofs.YtlpbjpkjmagodaaW.PrintLast Go.Proofs.YtlpbjpkjmagodaaW.PrintMore
set_option linter.unusedVariables false
set_option linter.unusedSimpArgs false

/-- The kind of the rune at a place. -/
def kd (s : ByteArray) (p : Nat) : Int := kindR (Utf8.decode s p).1
/-- The text of the rune at a place. -/
def tx (s : ByteArray) (p : Nat) : ByteArray := s.extract p (p + (Utf8.decode s p).2)
/-- The place behind it. -/
def nx (s : ByteArray) (p : Nat) : Nat := p + (Utf8.decode s p).2
/-- The parts behind the rune at p. -/
def nextL (s : ByteArray) (l : List S34) (last : Int) (p : Nat) : List S34 :=
  if kd s p = 0 then l else if kd s p = last ∧ kd s p ≠ 3 then l.set (l.length - 1) ⟨(lastP l).f0, (lastP l).f1 ++ tx s p, (lastP l).f2⟩ else l ++ [⟨kd s p, tx s p, (p : Int)⟩]
/-- From a place on all is right, and these are the parts in the end. -/
inductive Run (s : ByteArray) : List S34 → Int → Nat → List S34 → Prop
  | done (l : List S34) (last : Int) (p : Nat) (h : s.size ≤ p) : Run s l last p l
  | step (l : List S34) (last : Int) (p : Nat) (R : List S34) (h : p < s.size) (hb : ¬ Bad s p) (hk : kd s p ≠ 4) (hn : Run s (nextL s l last p) (kd s p) (nx s p) R) : Run s l last p R
/-- From a place p on the first one that is not right is q. -/
inductive BadAt (s : ByteArray) : Nat → Nat → Prop
  | here (p : Nat) (h : p < s.size) (hb : Bad s p ∨ kd s p = 4) : BadAt s p p
  | step (p q : Nat) (h : p < s.size) (hb : ¬ Bad s p) (hk : kd s p ≠ 4) (hn : BadAt s (nx s p) q) : BadAt s p q
theorem nx_gt (s : ByteArray) (p : Nat) (h : p < s.size) : p < nx s p := by have := decode_width s p h; unfold nx; omega
theorem nx_le (s : ByteArray) (p : Nat) (h : p < s.size) : nx s p ≤ s.size := decode_end s p h
theorem run_or_bad (s : ByteArray) : ∀ d p, s.size - p = d → (∀ l last, ∃ R, Run s l last p R) ∨ ∃ q, BadAt s p q := by
  intro d
  induction d using Nat.strongRecOn with
  | _ d ih =>
    intro p hd
    by_cases h : p < s.size
    · by_cases hb : Bad s p ∨ kd s p = 4
      · exact .inr ⟨p, .here p h hb⟩
      · have h1 := nx_gt s p h
        rcases ih (s.size - nx s p) (by omega) (nx s p) rfl with h2 | ⟨q, h2⟩
        · refine .inl fun l last => ?_
          obtain ⟨R, hR⟩ := h2 (nextL s l last p) (kd s p)
          exact ⟨R, .step l last p R h (fun x => hb (.inl x)) (fun x => hb (.inr x)) hR⟩
        · exact .inr ⟨q, .step p q h (fun x => hb (.inl x)) (fun x => hb (.inr x)) h2⟩
    · exact .inl fun l last => ⟨l, .done l last p (by omega)⟩
/-- What holds of the parts so far. -/
structure Inv (l : List S34) (last : Int) (p : Nat) : Prop where
  some_ : last ≠ 0 → l.length ≠ 0
  small : ∀ x ∈ l, x.f1.size ≤ p
theorem lastP_mem (l : List S34) (h : l.length ≠ 0) : lastP l ∈ l := by
  unfold lastP rd_T34
  have e : ((l.length : Int) - 1).toNat = l.length - 1 := by omega
  rw [e, List.getD_eq_getElem?_getD, List.getElem?_eq_getElem (by omega)]
  exact List.getElem_mem _
theorem tx_size (s : ByteArray) (p : Nat) (h : p < s.size) : (tx s p).size = (Utf8.decode s p).2 := by
  have := decode_end s p h
  unfold tx
  rw [← len_list, ext_list, List.length_take, List.length_drop, len_list]
  omega
theorem tx_encode (s : ByteArray) (p : Nat) (h : p < s.size) (hb : ¬ Bad s p) : Utf8.encode (Utf8.decode s p).1 = tx s p := encode_decode s p h hb
theorem size_append (a b : ByteArray) : (a ++ b).size = a.size + b.size := by simp
theorem sp_step (s : ByteArray) (hs : s.size ≤ 2048) (d : Nat) (l : List S34) (last : Int) (p : Nat) (h : p < s.size) (hb : ¬ Bad s p) (hk : kd s p ≠ 4) (hI : Inv l last p) :
    spLoop s (d + 1) l last p = spLoop s d (nextL s l last p) (kd s p) (nx s p) ∧ Inv (nextL s l last p) (kd s p) (nx s p) := by
  have hnx := nx_gt s p h
  have htx := tx_size s p h
  have hnb : ¬ (((Utf8.decode s p).1 : Int) = 65533 ∧ wholeAt s p = false) := fun x => hb ((bad_iff s p h).mp x)
  have hle := nx_le s p h
  constructor
  · simp only [spLoop]
    rw [if_pos h, tx_encode s p h hb]
    show (if kd s p = 4 then _ else _) = _
    rw [if_neg hk, if_neg hnb]
    unfold nextL
    show (if kd s p = 0 then spLoop s d l 0 (nx s p) else if kd s p = last ∧ kd s p ≠ 3 then _ else spLoop s d (l ++ [⟨kd s p, tx s p, (p : Int)⟩]) (kd s p) (nx s p)) = _
    by_cases h0 : kd s p = 0
    · rw [if_pos h0, if_pos h0, h0]
    · rw [if_neg h0, if_neg h0]
      by_cases h1 : kd s p = last ∧ kd s p ≠ 3
      · rw [if_pos h1, if_pos h1]
        have hl := hI.some_ (by rw [← h1.1]; exact h0)
        have hsm := hI.small _ (lastP_mem l hl)
        rw [if_neg hl, if_pos (by unfold nx at hle; omega)]
        rfl
      · rw [if_neg h1, if_neg h1]
  · unfold nextL
    have hp : ∀ x ∈ l, x.f1.size ≤ nx s p := fun x hx => by have := hI.small x hx; omega
    by_cases h0 : kd s p = 0
    · rw [if_pos h0]
      exact ⟨fun h => absurd h0 h, hp⟩
    · rw [if_neg h0]
      by_cases h1 : kd s p = last ∧ kd s p ≠ 3
      · rw [if_pos h1]
        have hl := hI.some_ (by rw [← h1.1]; exact h0)
        have hsm := hI.small _ (lastP_mem l hl)
        refine ⟨fun _ => by rw [List.length_set]; exact hl, fun x hx => ?_⟩
        rcases List.mem_or_eq_of_mem_set hx with h2 | h2
        · exact hp x h2
        · subst h2
          show ((lastP l).f1 ++ tx s p).size ≤ _
          rw [size_append, htx]
          unfold nx
          omega
      · rw [if_neg h1]
        refine ⟨fun _ => by simp, fun x hx => ?_⟩
        rcases List.mem_append.mp hx with h2 | h2
        · exact hp x h2
        · obtain rfl := List.mem_singleton.mp h2
          show (tx s p).size ≤ _
          rw [htx]
          unfold nx
          omega
theorem sp_run (s : ByteArray) (hs : s.size ≤ 2048) {l : List S34} {last : Int} {p : Nat} {R : List S34} (h : Run s l last p R) : ∀ d, s.size - p < d → Inv l last p → spLoop s d l last p = some (R, 0, 0) := by
  induction h with
  | done l last p h =>
    intro d hd _
    obtain ⟨d, rfl⟩ : ∃ m, d = m + 1 := ⟨d - 1, by omega⟩
    simp only [spLoop]
    rw [if_neg (by omega)]
  | step l last p R h hb hk hn ih =>
    intro d hd hI
    obtain ⟨d, rfl⟩ : ∃ m, d = m + 1 := ⟨d - 1, by omega⟩
    obtain ⟨h1, h2⟩ := sp_step s hs d l last p h hb hk hI
    have h3 := nx_gt s p h
    rw [h1]
    exact ih d (by omega) h2
theorem sp_bad (s : ByteArray) (hs : s.size ≤ 2048) {p q : Nat} (h : BadAt s p q) : ∀ d l last, s.size - p < d → Inv l last p → spLoop s d l last p = some ([], (q : Int), 21) := by
  induction h with
  | here p h hb =>
    intro d l last hd _
    obtain ⟨d, rfl⟩ : ∃ m, d = m + 1 := ⟨d - 1, by omega⟩
    simp only [spLoop]
    rw [if_pos h]
    by_cases h4 : kd s p = 4
    · exact if_pos h4
    · rw [if_neg (show ¬ kindR (Utf8.decode s p).1 = 4 from h4)]
      exact if_pos ((bad_iff s p h).mpr (hb.resolve_right h4))
  | step p q h hb hk hn ih =>
    intro d l last hd hI
    obtain ⟨d, rfl⟩ : ∃ m, d = m + 1 := ⟨d - 1, by omega⟩
    obtain ⟨h1, h2⟩ := sp_step s hs d l last p h hb hk hI
    have h3 := nx_gt s p h
    rw [h1]
    exact ih d _ _ (by omega) h2
end Go.Proofs.Ytlpbjpkjmagodaa.Lem
