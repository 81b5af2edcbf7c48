/- Two texts with a blank between them have the parts of both: plain Lean over the given function. Conditions: none but the texts' own. -/
import Derived.Test.YtlpbjpkjmagodaaLemD
import Derived.Test.YtlpbjpkjmagodaaPWordx9
namespace Go.Proofs.Ytlpbjpkjmagodaa.Lem
open Go.RowKit Go.Proofs.Ytlpbjpkjmagodaa.PWord Go.Proofs.Ytlpbjpkjmagodaa.Utf Go.Proofs.YtlpbjpkjmagodaaW.PrintWords Go.Proofs.YtlpbjpkjmagodaaW.PrintLast Go.Proofs.YtlpbjpkjmagodaaW.PrintMore
set_option linter.unusedVariables false
set_option linter.unusedSimpArgs false

theorem split_run {s : ByteArray} {l : List S34} {x : Int} (h : word_Split.f s = some (l, x, 0)) : s.size ≤ 2048 ∧ Run s [] 0 0 l := by
  unfold word_Split.f at h
  by_cases hs : s.size > 2048
  · rw [if_pos hs] at h
    simp at h
  · rw [if_neg hs] at h
    refine ⟨by omega, ?_⟩
    have hI : Inv [] 0 0 := ⟨fun h => absurd rfl h, fun x hx => by cases hx⟩
    rcases run_or_bad s _ 0 rfl with hr | ⟨q, hq⟩
    · obtain ⟨R, hR⟩ := hr [] 0
      rw [sp_run s (by omega) hR _ (by omega) hI] at h
      obtain ⟨rfl, _⟩ := Prod.mk.inj (Option.some.inj h)
      exact hR
    · rw [sp_bad s (by omega) hq _ _ _ (by omega) hI] at h
      simp at h
/-- The same bytes, the same rune. -/
theorem decode_same (s t : ByteArray) (p q : Nat) (hp : p < s.size) (hq : q < t.size) (hb : ¬ Bad s p) (hsz : s.size - p ≤ t.size - q) (h : ∀ i : Nat, p + i < s.size → bt t (q + i : Nat) = bt s (p + i : Nat)) :
    ¬ Bad t q ∧ (Utf8.decode t q).1 = (Utf8.decode s p).1 ∧ (Utf8.decode t q).2 = (Utf8.decode s p).2 := by
  have e0 := h 0 (by omega)
  rw [Nat.add_zero, Nat.add_zero] at e0
  have e1 := fun hh : p + 1 < s.size => h 1 hh
  have e2 := fun hh : p + 2 < s.size => h 2 hh
  have e3 := fun hh : p + 3 < s.size => h 3 hh
  have hT := tells t q hq
  rcases tells s p hp with ⟨h1, h2, h3⟩ | ⟨h1, h2, h3⟩ | ⟨h1, h2, h3⟩ | ⟨h1, h2, h3⟩ | ⟨h1, h2, h3⟩
  · have hnb : ¬ Bad t q := fun x => by have := x.1; omega
    refine ⟨hnb, ?_⟩
    rcases hT with ⟨g1, g2, g3⟩ | ⟨g1, g2, g3⟩ | ⟨g1, g2, g3⟩ | ⟨g1, g2, g3⟩ | ⟨g1, g2, g3⟩
    · exact ⟨by omega, by omega⟩
    · have := g1.2.1; omega
    · have := g1.2.1; omega
    · have := g1.2.1; omega
    · exact absurd g1 hnb
  · obtain ⟨a0, a1, a2, a3, a4⟩ := h1
    have e1 := e1 a0
    have two : Two t q := ⟨by omega, by omega, by omega, by omega, by omega⟩
    have hnb : ¬ Bad t q := fun x => x.2.1 two
    refine ⟨hnb, ?_⟩
    rcases hT with ⟨g1, g2, g3⟩ | ⟨g1, g2, g3⟩ | ⟨g1, g2, g3⟩ | ⟨g1, g2, g3⟩ | ⟨g1, g2, g3⟩
    · omega
    · exact ⟨by omega, by omega⟩
    · have := g1.2.1; omega
    · have := g1.2.1; omega
    · exact absurd g1 hnb
  · obtain ⟨a0, a1, a2, a3, a4, a5, a6, a7, a8⟩ := h1
    have e1 := e1 (by omega)
    have e2 := e2 a0
    have three : Three t q := ⟨by omega, by omega, by omega, by omega, by omega, by omega, by omega, fun e => by have := a7 (by omega); omega, fun e => by have := a8 (by omega); omega⟩
    have hnb : ¬ Bad t q := fun x => x.2.2.1 three
    refine ⟨hnb, ?_⟩
    rcases hT with ⟨g1, g2, g3⟩ | ⟨g1, g2, g3⟩ | ⟨g1, g2, g3⟩ | ⟨g1, g2, g3⟩ | ⟨g1, g2, g3⟩
    · omega
    · have := g1.2.2.1; omega
    · exact ⟨by omega, by omega⟩
    · have := g1.2.1; omega
    · exact absurd g1 hnb
  · obtain ⟨a0, a1, a2, a3, a4, a5, a6, a7, a8, a9, a10⟩ := h1
    have e1 := e1 (by omega)
    have e2 := e2 (by omega)
    have e3 := e3 a0
    have four : Four t q := ⟨by omega, by omega, by omega, by omega, by omega, by omega, by omega, by omega, by omega, fun e => by have := a9 (by omega); omega, fun e => by have := a10 (by omega); omega⟩
    have hnb : ¬ Bad t q := fun x => x.2.2.2 four
    refine ⟨hnb, ?_⟩
    rcases hT with ⟨g1, g2, g3⟩ | ⟨g1, g2, g3⟩ | ⟨g1, g2, g3⟩ | ⟨g1, g2, g3⟩ | ⟨g1, g2, g3⟩
    · omega
    · have := g1.2.2.1; omega
    · have := g1.2.2.1; omega
    · exact ⟨by omega, by omega⟩
    · exact absurd g1 hnb
  · exact absurd h1 hb
theorem bt_list (s : ByteArray) (i : Nat) : bt s (i : Int) = ((s.data.toList.getD i 0).toNat : Int) := by
  by_cases h : i < s.size
  · rw [bt_get s i h, List.getD_eq_getElem?_getD, List.getElem?_eq_getElem (by rw [len_list]; exact h)]
    rfl
  · unfold bt
    rw [dif_neg (by simpa using h), List.getD_eq_getElem?_getD, List.getElem?_eq_none (by rw [len_list]; omega)]
    rfl
theorem bt_left (a b : ByteArray) (i : Nat) (h : i < a.size) : bt (a ++ b) (i : Int) = bt a (i : Int) := by
  rw [bt_list, bt_list, ByteArray.data_append, Array.toList_append, List.getD_eq_getElem?_getD, List.getD_eq_getElem?_getD, List.getElem?_append_left (by rw [len_list]; exact h)]
theorem bt_right (a b : ByteArray) (i : Nat) : bt (a ++ b) ((a.size + i : Nat) : Int) = bt b (i : Int) := by
  rw [bt_list, bt_list, ByteArray.data_append, Array.toList_append, List.getD_eq_getElem?_getD, List.getD_eq_getElem?_getD, List.getElem?_append_right (by rw [len_list]; omega), len_list, Nat.add_sub_cancel_left]
theorem ext_left (a b : ByteArray) (i j : Nat) (h : j ≤ a.size) : (a ++ b).extract i j = a.extract i j := by
  apply ByteArray.ext
  apply Array.toList_inj.mp
  rw [ext_list, ext_list, ByteArray.data_append, Array.toList_append]
  by_cases hi : i ≤ a.size
  · rw [List.drop_append_of_le_length (by rw [len_list]; exact hi), List.take_append_of_le_length (by rw [List.length_drop, len_list]; omega)]
  · rw [show j - i = 0 by omega]; rfl
theorem ext_right (a b : ByteArray) (i j : Nat) : (a ++ b).extract (a.size + i) (a.size + j) = b.extract i j := by
  apply ByteArray.ext
  apply Array.toList_inj.mp
  rw [ext_list, ext_list, ByteArray.data_append, Array.toList_append, show a.size + j - (a.size + i) = j - i by omega, List.drop_append, List.drop_of_length_le (by rw [len_list]; omega), len_list, List.nil_append, Nat.add_sub_cancel_left]
theorem run_left (a x : ByteArray) {L : List S34} {last : Int} {p : Nat} {R Q : List S34} (h : Run a L last p R) (hp : p ≤ a.size) (hc : ∀ last, Run (a ++ x) R last a.size Q) : Run (a ++ x) L last p Q := by
  induction h with
  | done l last p h =>
    obtain rfl : p = a.size := by omega
    exact hc last
  | step l last p R h hb hk hn ih =>
    have hsz : (a ++ x).size = a.size + x.size := by simp
    obtain ⟨g1, g2, g3⟩ := decode_same a (a ++ x) p p h (by omega) hb (by omega) (fun i hi => bt_left a x (p + i) hi)
    have hle := nx_le a p h
    have ek : kd (a ++ x) p = kd a p := by unfold kd; rw [g2]
    have en : nx (a ++ x) p = nx a p := by unfold nx; rw [g3]
    have et : tx (a ++ x) p = tx a p := by
      unfold tx
      rw [g3]
      exact ext_left a x _ _ hle
    have eN : nextL (a ++ x) l last p = nextL a l last p := by unfold nextL; rw [ek, et]
    refine .step l last p Q (by omega) g1 (by rw [ek]; exact hk) ?_
    rw [eN, ek, en]
    exact ih hle hc
theorem lastP_right (l m : List S34) (h : m.length ≠ 0) : lastP (l ++ m) = lastP m := by
  unfold lastP rd_T34
  have e1 : (((l ++ m).length : Int) - 1).toNat = l.length + (m.length - 1) := by rw [List.length_append]; omega
  have e2 : ((m.length : Int) - 1).toNat = m.length - 1 := by omega
  rw [e1, e2, List.getD_eq_getElem?_getD, List.getD_eq_getElem?_getD, List.getElem?_append_right (by omega), Nat.add_sub_cancel_left]
theorem lastP_map (m : List S34) (d : Int) (h : m.length ≠ 0) : lastP (m.map (shiftP d)) = shiftP d (lastP m) := by
  unfold lastP rd_T34
  have e2 : ((m.length : Int) - 1).toNat = m.length - 1 := by omega
  rw [List.length_map, e2, List.getD_eq_getElem?_getD, List.getD_eq_getElem?_getD, List.getElem?_map, List.getElem?_eq_getElem (by omega)]
  rfl
theorem run_right (a b : ByteArray) (l : List S34) {L : List S34} {last : Int} {p : Nat} {R : List S34} (h : Run b L last p R) (hp : p ≤ b.size) (hI : last ≠ 0 → L.length ≠ 0) : Run (a ++ b) (l ++ L.map (shiftP a.size)) last (a.size + p) (l ++ R.map (shiftP a.size)) := by
  have hsz : (a ++ b).size = a.size + b.size := by simp
  induction h with
  | done L last p h => exact .done _ _ _ (by omega)
  | step L last p R h hb hk hn ih =>
    obtain ⟨g1, g2, g3⟩ := decode_same b (a ++ b) p (a.size + p) h (by omega) hb (by omega) (fun i hi => by rw [Nat.add_assoc]; exact bt_right a b (p + i))
    have hle := nx_le b p h
    have ek : kd (a ++ b) (a.size + p) = kd b p := by unfold kd; rw [g2]
    have en : nx (a ++ b) (a.size + p) = a.size + nx b p := by unfold nx; rw [g3]; omega
    have et : tx (a ++ b) (a.size + p) = tx b p := by
      unfold tx
      rw [g3, Nat.add_assoc]
      exact ext_right a b _ _
    have eI : kd b p ≠ 0 → (nextL b L last p).length ≠ 0 := by
      intro h0
      unfold nextL
      rw [if_neg h0]
      split
      · rename_i h1
        rw [List.length_set]
        exact hI (by rw [← h1.1]; exact h0)
      · simp
    have eN : nextL (a ++ b) (l ++ L.map (shiftP a.size)) last (a.size + p) = l ++ (nextL b L last p).map (shiftP a.size) := by
      unfold nextL
      rw [ek, et]
      by_cases h0 : kd b p = 0
      · rw [if_pos h0, if_pos h0]
      · rw [if_neg h0, if_neg h0]
        by_cases h1 : kd b p = last ∧ kd b p ≠ 3
        · rw [if_pos h1, if_pos h1]
          have hL := hI (by rw [← h1.1]; exact h0)
          rw [lastP_right _ _ (by rw [List.length_map]; exact hL), lastP_map _ _ hL, List.length_append, List.length_map, List.set_append_right _ _ (by omega), show l.length + L.length - 1 - l.length = L.length - 1 by omega]
          congr 1
          rw [List.map_set]
          rfl
        · rw [if_neg h1, if_neg h1, List.map_append, List.append_assoc]
          congr 2
          show [(⟨kd b p, tx b p, ((a.size + p : Nat) : Int)⟩ : S34)] = [(⟨kd b p, tx b p, (p : Int) + (a.size : Int)⟩ : S34)]
          rw [Int.natCast_add, Int.add_comm]
    refine .step _ last _ _ (by omega) g1 (by rw [ek]; exact hk) ?_
    rw [eN, ek, en]
    exact ih hle eI
theorem run_places (s : ByteArray) (hs : s.size ≤ 2048) {L : List S34} {last : Int} {p : Nat} {R : List S34} (h : Run s L last p R) (hI : last ≠ 0 → L.length ≠ 0) (hL : ∀ x ∈ L, 0 ≤ x.f2 ∧ x.f2 ≤ 2048) : ∀ x ∈ R, 0 ≤ x.f2 ∧ x.f2 ≤ 2048 := by
  induction h with
  | done L last p h => exact hL
  | step L last p R h hb hk hn ih =>
    refine ih ?_ ?_
    · intro h0
      unfold nextL
      rw [if_neg h0]
      split
      · rename_i h1
        rw [List.length_set]
        exact hI (by rw [← h1.1]; exact h0)
      · simp
    · unfold nextL
      split
      · exact hL
      · rename_i h0
        split
        · rename_i h1
          intro x hx
          rcases List.mem_or_eq_of_mem_set hx with h2 | h2
          · exact hL x h2
          · subst h2
            have h3 := hL (lastP L) (lastP_mem L (hI (by rw [← h1.1]; exact h0)))
            exact h3
        · intro x hx
          rcases List.mem_append.mp hx with h2 | h2
          · exact hL x h2
          · obtain rfl := List.mem_singleton.mp h2
            show 0 ≤ (p : Int) ∧ (p : Int) ≤ 2048
            omega
theorem two_ok (a b : ByteArray) : TwoOk a b := by
  obtain ⟨l, x1, e, hl, h1, _⟩ := split_eq a
  obtain ⟨m, x2, f, hm, h2, _⟩ := split_eq b
  refine ⟨l, m, x1, x2, e, f, h1, h2, ?_⟩
  by_cases he : e = 0
  · by_cases hf : f = 0
    · by_cases hs : 2048 ≤ a.size + b.size
      · exact .inl (.inr (.inr hs))
      · subst he hf
        obtain ⟨ha, hra⟩ := split_run h1
        obtain ⟨hb, hrb⟩ := split_run h2
        refine .inr ⟨rfl, rfl, by omega, hl, hm, run_places b hb hrb (fun h => absurd rfl h) (fun x hx => by cases hx), 0, ?_⟩
        have e1 : (a ++ ⟨#[32]⟩ : ByteArray).size = a.size + 1 := by rw [ByteArray.size_append]; rfl
        have e2 : ((a ++ ⟨#[32]⟩ : ByteArray) ++ b).size = a.size + 1 + b.size := by rw [ByteArray.size_append, e1]
        have hR := run_right (a ++ ⟨#[32]⟩) b l hrb (Nat.zero_le _) (fun h => absurd rfl h)
        rw [List.map_nil, List.append_nil, Nat.add_zero, e1] at hR
        have hB : bt ((a ++ ⟨#[32]⟩) ++ b) (a.size : Nat) = 32 := by
          rw [bt_left _ _ _ (by omega)]
          have := bt_right a ⟨#[32]⟩ 0
          rw [Nat.add_zero] at this
          rw [this]
          rfl
        have hmid : ∀ last, Run ((a ++ ⟨#[32]⟩) ++ b) l last a.size (l ++ m.map (shiftP ((a.size + 1 : Nat) : Int))) := by
          intro last
          obtain ⟨k1, k2⟩ := kd_low ((a ++ ⟨#[32]⟩) ++ b) a.size (by omega) (by rw [hB]; omega)
          rw [hB] at k1
          have k3 : kd ((a ++ ⟨#[32]⟩) ++ b) a.size = 0 := k1
          refine .step l last a.size _ (by omega) (fun x => by have := x.1; omega) (by rw [k3]; omega) ?_
          have eN : nextL ((a ++ ⟨#[32]⟩) ++ b) l last a.size = l := by unfold nextL; rw [if_pos k3]
          rw [eN, k2, k3]
          exact hR
        have hrun : Run ((a ++ ⟨#[32]⟩) ++ b) [] 0 0 (l ++ m.map (shiftP ((a.size + 1 : Nat) : Int))) := by
          rw [ByteArray.append_assoc]
          refine run_left a (⟨#[32]⟩ ++ b) hra (Nat.zero_le _) ?_
          rw [← ByteArray.append_assoc]
          exact hmid
        unfold word_Split.f
        rw [if_neg (by omega)]
        exact sp_run _ (by omega) hrun _ (by omega) ⟨fun h => absurd rfl h, fun x hx => by cases hx⟩
    · exact .inl (.inr (.inl hf))
  · exact .inl (.inl he)
end Go.Proofs.Ytlpbjpkjmagodaa.Lem
