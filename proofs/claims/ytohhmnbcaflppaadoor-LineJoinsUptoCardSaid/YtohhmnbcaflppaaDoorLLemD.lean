/- What is written is read again. -/
import Derived.Test.YtohhmnbcaflppaaDoorLLemC
namespace Go.Proofs.YtohhmnbcaflppaaDoor.LNum
open Go.RowKit Go.Proofs.YtohhmnbcaflppaaDoor.PLine Go.Proofs.YtohhmnbcaflppaaDoor.Rd Go.Proofs.YtohhmnbcaflppaaDoorW.PrintWords Go.Proofs.YtohhmnbcaflppaaDoorW.PrintLast Go.Proofs.YtohhmnbcaflppaaDoorW.PrintMore
set_option linter.unusedVariables false
set_option linter.unusedSimpArgs false
theorem rd_app : ∀ (x y : List UInt8) (st : RS), rdL (x ++ y) st = (rdL x st).bind (rdL y)
  | [], y, st => rfl
  | b :: x, y, st => by
    rw [List.cons_append, rdL, rdL]
    cases h : st.step b.toNat with
    | none => rfl
    | some st' => exact rd_app x y st'
/-- A byte that can be in a field. -/
def Clean (b : UInt8) : Prop := (b.toNat = 9 ∨ (32 ≤ b.toNat ∧ b.toNat ≤ 126)) ∧ b.toNat ≠ 34
def CleanL (l : List UInt8) : Prop := ∀ b ∈ l, Clean b
def CleanF (f : ByteArray) : Prop := CleanL f.data.toList
def CleanS (n : Nat) (st : RS) : Prop := (∀ f ∈ st.l, CleanF f ∧ f.size ≤ n) ∧ CleanL st.acc ∧ st.acc.length ≤ n
theorem cleanL_app {a b : List UInt8} (h : CleanL a) (g : CleanL b) : CleanL (a ++ b) := fun x hx => (List.mem_append.1 hx).elim (h x) (g x)
theorem clean_ended (n : Nat) (st : RS) (h : CleanS n st) : ∀ f ∈ ended st.l st.acc st.bi, CleanF f ∧ f.size ≤ n := by
  intro f hf
  unfold ended at hf
  split at hf
  · rcases List.mem_append.1 hf with hf | hf
    · exact h.1 f hf
    · obtain rfl := List.mem_singleton.1 hf
      exact ⟨h.2.1, h.2.2⟩
  · exact h.1 f hf
theorem clean_step (n : Nat) (st st' : RS) (b : UInt8) (h : CleanS n st) (hs : st.step b.toNat = some st') : CleanS (n + 1) st' := by
  have he := clean_ended n st h
  have hw : ∀ f ∈ st.l, CleanF f ∧ f.size ≤ n + 1 := fun f hf => ⟨(h.1 f hf).1, Nat.le_succ_of_le (h.1 f hf).2⟩
  have hew : ∀ f ∈ ended st.l st.acc st.bi, CleanF f ∧ f.size ≤ n + 1 := fun f hf => ⟨(he f hf).1, Nat.le_succ_of_le (he f hf).2⟩
  have hb : UInt8.ofNat ((b.toNat : Int)).toNat = b := by rw [Int.toNat_natCast]; exact Utf.byte_eq rfl
  have hnil : CleanL ([] : List UInt8) := fun x hx => by cases hx
  have happ : Clean b → CleanL (st.acc ++ [UInt8.ofNat ((b.toNat : Int)).toNat]) := fun hc => by
    rw [hb]
    exact cleanL_app h.2.1 (fun x hx => by obtain rfl := List.mem_singleton.1 hx; exact hc)
  have hal : (st.acc ++ [UInt8.ofNat ((b.toNat : Int)).toNat]).length ≤ n + 1 := by rw [List.length_append]; have := h.2.2; show st.acc.length + 1 ≤ n + 1; omega
  have ha1 := h.2.2
  unfold RS.step at hs
  by_cases hbad : Bad (b.toNat : Int)
  · rw [if_pos hbad] at hs; cases hs
  rw [if_neg hbad] at hs
  have hg := good _ hbad
  by_cases hbr : st.br = true
  · rw [if_pos hbr] at hs
    obtain rfl := Option.some.inj hs
    exact ⟨hw, h.2.1, by omega⟩
  rw [if_neg hbr] at hs
  by_cases h34 : (b.toNat : Int) = 34
  · rw [if_pos h34] at hs
    obtain rfl := Option.some.inj hs
    exact ⟨hw, h.2.1, by show st.acc.length ≤ n + 1; omega⟩
  rw [if_neg h34] at hs
  by_cases hbo : st.bo = true
  · rw [if_pos hbo] at hs
    by_cases h13 : (b.toNat : Int) = 13
    · rw [if_pos h13] at hs; cases hs
    rw [if_neg h13] at hs
    obtain rfl := Option.some.inj hs
    exact ⟨hw, happ ⟨by omega, by omega⟩, hal⟩
  rw [if_neg hbo] at hs
  by_cases h35 : (b.toNat : Int) = 35
  · rw [if_pos h35] at hs
    obtain rfl := Option.some.inj hs
    exact ⟨hew, hnil, Nat.zero_le _⟩
  rw [if_neg h35] at hs
  by_cases hbl : (b.toNat : Int) = 32 ∨ (b.toNat : Int) = 9 ∨ (b.toNat : Int) = 13
  · rw [if_pos hbl] at hs
    obtain rfl := Option.some.inj hs
    exact ⟨hew, hnil, Nat.zero_le _⟩
  rw [if_neg hbl] at hs
  obtain rfl := Option.some.inj hs
  exact ⟨hw, happ ⟨by omega, by omega⟩, hal⟩
theorem clean_rd : ∀ (x : List UInt8) (n : Nat) (st st' : RS), CleanS n st → rdL x st = some st' → CleanS (n + x.length) st'
  | [], n, st, st', h, hr => by obtain rfl := Option.some.inj hr; exact h
  | b :: x, n, st, st', h, hr => by
    rw [rdL] at hr
    cases hs : st.step b.toNat with
    | none => rw [hs] at hr; cases hr
    | some s1 =>
      rw [hs] at hr
      have := clean_rd x (n + 1) s1 st' (clean_step n st s1 b h hs) hr
      rwa [List.length_cons, show n + (x.length + 1) = n + 1 + x.length by omega]
theorem clean_fields (p : ByteArray) : ∀ f ∈ (fieldsR p).1, CleanF f ∧ f.size ≤ p.size := by
  intro f hf
  unfold fieldsR at hf
  cases h : rdL p.data.toList z0 with
  | none => rw [h] at hf; cases hf
  | some st =>
    rw [h] at hf
    have hc := clean_rd p.data.toList 0 z0 st ⟨(fun f hf => by cases hf), (fun x hx => by cases hx), Nat.le_refl _⟩ h
    rw [Nat.zero_add, Utf.len_list] at hc
    exact clean_ended p.size st hc f hf
/-! Reading what was written. -/
theorem ofb (b : UInt8) : UInt8.ofNat ((b.toNat : Int)).toNat = b := by rw [Int.toNat_natCast]; exact Utf.byte_eq rfl
theorem rd_open : ∀ (f : List UInt8) (l : List ByteArray) (acc : List UInt8), CleanL f → rdL f ⟨l, acc, true, true, false⟩ = some ⟨l, acc ++ f, true, true, false⟩
  | [], l, acc, _ => by rw [List.append_nil]; rfl
  | b :: f, l, acc, h => by
    have hb := h b List.mem_cons_self
    have hs : RS.step ⟨l, acc, true, true, false⟩ (b.toNat : Int) = some ⟨l, acc ++ [b], true, true, false⟩ := by
      obtain ⟨h1, h2⟩ := hb
      unfold RS.step
      rw [if_neg (by unfold Bad; omega), if_neg Bool.false_ne_true, if_neg (by omega), if_pos rfl, if_neg (by omega), ofb]
    rw [rdL, hs]
    have := rd_open f l (acc ++ [b]) (fun x hx => h x (List.mem_cons_of_mem _ hx))
    rw [List.append_assoc] at this
    exact this
/-- A byte that needs no quotes. -/
def PlainB (b : UInt8) : Prop := 33 ≤ b.toNat ∧ b.toNat ≤ 126 ∧ b.toNat ≠ 34 ∧ b.toNat ≠ 35
theorem rd_plain : ∀ (f : List UInt8) (l : List ByteArray) (acc : List UInt8) (bi : Bool), f ≠ [] → (∀ b ∈ f, PlainB b) → rdL f ⟨l, acc, bi, false, false⟩ = some ⟨l, acc ++ f, true, false, false⟩
  | [], _, _, _, h, _ => absurd rfl h
  | b :: f, l, acc, bi, _, h => by
    obtain ⟨h1, h2, h3, h4⟩ := h b List.mem_cons_self
    have hs : RS.step ⟨l, acc, bi, false, false⟩ (b.toNat : Int) = some ⟨l, acc ++ [b], true, false, false⟩ := by
      unfold RS.step
      rw [if_neg (by unfold Bad; omega), if_neg Bool.false_ne_true, if_neg (by omega), if_neg Bool.false_ne_true, if_neg (by omega), if_neg (by omega), ofb]
    rw [rdL, hs]
    cases f with
    | nil => rfl
    | cons c f =>
      have := rd_plain (c :: f) l (acc ++ [b]) true (by simp) (fun x hx => h x (List.mem_cons_of_mem _ hx))
      rw [List.append_assoc] at this
      exact this
theorem field_data (f : ByteArray) : (fieldB f).data.toList = if quoteB f = true then 34 :: (f.data.toList ++ [34]) else f.data.toList := by
  unfold fieldB
  split
  · rw [ByteArray.data_append, ByteArray.data_append, Array.toList_append, Array.toList_append]
    rfl
  · rfl
theorem quote_step (l : List ByteArray) (acc : List UInt8) (bi bo : Bool) : RS.step ⟨l, acc, bi, bo, false⟩ 34 = some ⟨l, acc, true, !bo, false⟩ := by
  unfold RS.step
  rw [if_neg (by decide), if_neg Bool.false_ne_true, if_pos rfl]
theorem rd_field (f : ByteArray) (l : List ByteArray) (h : CleanF f) : rdL (fieldB f).data.toList ⟨l, [], false, false, false⟩ = some ⟨l, f.data.toList, true, false, false⟩ := by
  rw [field_data]
  by_cases hq : quoteB f = true
  · rw [if_pos hq, rdL, show (((34 : UInt8).toNat : Nat) : Int) = 34 from rfl, quote_step]
    show rdL (f.data.toList ++ [34]) ⟨l, [], true, true, false⟩ = _
    rw [rd_app, rd_open _ l [] h]
    show rdL [34] ⟨l, [] ++ f.data.toList, true, true, false⟩ = _
    rw [rdL, show (((34 : UInt8).toNat : Nat) : Int) = 34 from rfl, quote_step]
    rfl
  · rw [if_neg hq]
    unfold quoteB at hq
    simp only [Bool.or_eq_true, not_or] at hq
    refine rd_plain _ l [] false (fun e => hq.1 (by rw [e]; rfl)) (fun b hb => ?_)
    obtain ⟨h1, h2⟩ := h b hb
    have hn : ¬ (b == 32 || b == 9 || b == 35) = true := fun q => hq.2 (List.any_eq_true.2 ⟨b, hb, q⟩)
    simp only [Bool.or_eq_true, beq_iff_eq, not_or, ← UInt8.toNat_inj] at hn
    have e32 : (32 : UInt8).toNat = 32 := rfl
    have e9 : (9 : UInt8).toNat = 9 := rfl
    have e35 : (35 : UInt8).toNat = 35 := rfl
    rw [e32, e9, e35] at hn
    unfold PlainB
    omega
theorem rd_more : ∀ (fs : List ByteArray) (l : List ByteArray) (a : ByteArray), (∀ f ∈ fs, CleanF f) → ∃ l' a', rdL (lineL false fs) ⟨l, a.data.toList, true, false, false⟩ = some ⟨l', a'.data.toList, true, false, false⟩ ∧ l' ++ [a'] = l ++ a :: fs
  | [], l, a, _ => ⟨l, a, rfl, rfl⟩
  | f :: r, l, a, h => by
    have hs : RS.step ⟨l, a.data.toList, true, false, false⟩ 32 = some ⟨l ++ [a], [], false, false, false⟩ := by
      unfold RS.step ended
      rw [if_neg (by decide), if_neg Bool.false_ne_true, if_neg (by decide), if_neg Bool.false_ne_true, if_neg (by decide), if_pos (.inl rfl), if_pos rfl, of_data]
    obtain ⟨l', a', h1, h2⟩ := rd_more r (l ++ [a]) f (fun g hg => h g (List.mem_cons_of_mem _ hg))
    refine ⟨l', a', ?_, by rw [h2]; simp⟩
    have e : lineL false (f :: r) = [32] ++ ((fieldB f).data.toList ++ lineL false r) := by rw [lineL, if_neg Bool.false_ne_true, List.append_assoc]
    rw [e, rd_app, rdL, show (((32 : UInt8).toNat : Nat) : Int) = 32 from rfl, hs]
    show rdL ((fieldB f).data.toList ++ lineL false r) ⟨l ++ [a], [], false, false, false⟩ = _
    rw [rd_app, rd_field f (l ++ [a]) (h f List.mem_cons_self)]
    exact h1
theorem rd_line (fs : List ByteArray) (hne : fs ≠ []) (h : ∀ f ∈ fs, CleanF f) : fieldsR ⟨(lineL true fs).toArray⟩ = (fs, true) := by
  cases fs with
  | nil => exact absurd rfl hne
  | cons f r =>
    obtain ⟨l', a', h1, h2⟩ := rd_more r [] f (fun g hg => h g (List.mem_cons_of_mem _ hg))
    have e : lineL true (f :: r) = (fieldB f).data.toList ++ lineL false r := by rw [lineL, if_pos rfl, List.nil_append]
    unfold fieldsR
    show out (rdL (lineL true (f :: r)) z0) = _
    rw [e, rd_app, show rdL (fieldB f).data.toList z0 = _ from rd_field f [] (h f List.mem_cons_self)]
    show out (rdL (lineL false r) ⟨[], f.data.toList, true, false, false⟩) = _
    rw [h1]
    show (ended l' a'.data.toList true, !false) = (f :: r, true)
    unfold ended
    rw [if_pos rfl, of_data, h2]
    rfl
end Go.Proofs.YtohhmnbcaflppaaDoor.LNum
