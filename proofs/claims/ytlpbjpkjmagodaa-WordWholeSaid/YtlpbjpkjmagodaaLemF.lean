/- All parts of a text, and blanks, are the text: plain Lean over the printed functions. Conditions: none but the text's own. -/
import Derived.Test.YtlpbjpkjmagodaaLemE
import Derived.Test.YtlpbjpkjmagodaaPWordx8
namespace Go.Proofs.Ytlpbjpkjmagodaa.Lem
open Go.RowKit Go.Proofs.Ytlpbjpkjmagodaa.PWord Go.Proofs.Ytlpbjpkjmagodaa.Utf Go.Proofs.YtlpbjpkjmagodaaW.PrintWords Go.Proofs.YtlpbjpkjmagodaaW.PrintLast Go.Proofs.YtlpbjpkjmagodaaW.PrintMore
set_option linter.unusedVariables false
set_option linter.unusedSimpArgs false

/-- Where part j - 1 ends. -/
def endAt (l : List S34) : Nat → Nat
  | 0 => 0
  | j + 1 => (rd_T34 l (j : Int)).f2.toNat + (rd_T34 l (j : Int)).f1.size
def Blank (s : ByteArray) (i : Nat) : Prop := bt s i = 32 ∨ bt s i = 9 ∨ bt s i = 10 ∨ bt s i = 13
/-- Part j is as it must be. -/
structure PartOk (s : ByteArray) (l : List S34) (j : Nat) : Prop where
  nat : 0 ≤ (rd_T34 l (j : Int)).f2
  some_ : 0 < (rd_T34 l (j : Int)).f1.size
  ge : endAt l j ≤ (rd_T34 l (j : Int)).f2.toNat
  le : endAt l (j + 1) ≤ s.size
  text : s.extract (rd_T34 l (j : Int)).f2.toNat (endAt l (j + 1)) = (rd_T34 l (j : Int)).f1
  gap : ∀ i, endAt l j ≤ i → i < (rd_T34 l (j : Int)).f2.toNat → Blank s i
structure Cov (s : ByteArray) (l : List S34) (last : Int) (p : Nat) : Prop where
  parts : ∀ j, j < l.length → PartOk s l j
  le : endAt l l.length ≤ p
  gap : ∀ i, endAt l l.length ≤ i → i < p → Blank s i
  at_ : last ≠ 0 → l.length ≠ 0 ∧ endAt l l.length = p
theorem rd_same {l m : List S34} {j : Nat} (h : l[j]? = m[j]?) : rd_T34 l (j : Int) = rd_T34 m (j : Int) := by
  unfold rd_T34
  rw [Int.toNat_natCast, List.getD_eq_getElem?_getD, List.getD_eq_getElem?_getD, h]
theorem end_same {l m : List S34} {j : Nat} (h : ∀ i, i < j → l[i]? = m[i]?) : endAt l j = endAt m j := by
  cases j with
  | zero => rfl
  | succ j =>
    show (rd_T34 l (j : Int)).f2.toNat + (rd_T34 l (j : Int)).f1.size = (rd_T34 m (j : Int)).f2.toNat + (rd_T34 m (j : Int)).f1.size
    rw [rd_same (h j (Nat.lt_succ_self j))]
theorem part_same {s : ByteArray} {l m : List S34} {j : Nat} (h : ∀ i, i < j + 1 → l[i]? = m[i]?) (hp : PartOk s l j) : PartOk s m j := by
  have e1 := rd_same (h j (Nat.lt_succ_self j))
  have e2 := end_same (j := j) (fun i hi => h i (by omega))
  have e3 := end_same h
  obtain ⟨h1, h2, h3, h4, h5, h6⟩ := hp
  rw [e1] at h1 h2 h3 h5 h6
  rw [e2] at h3 h6
  rw [e3] at h4 h5
  exact ⟨h1, h2, h3, h4, h5, h6⟩
theorem cov_step (s : ByteArray) (l : List S34) (last : Int) (p : Nat) (h : p < s.size) (hb : ¬ Bad s p) (hk : kd s p ≠ 4) (hc : Cov s l last p) : Cov s (nextL s l last p) (kd s p) (nx s p) := by
  have hgt := nx_gt s p h
  have hle := nx_le s p h
  have hts := tx_size s p h
  have hnx : nx s p = p + (Utf8.decode s p).2 := rfl
  obtain ⟨c1, c2, c3, c4⟩ := hc
  unfold nextL
  by_cases h0 : kd s p = 0
  · rw [if_pos h0]
    have hk0 := kinds s p h hb hk
    have hn1 := hk0.2.2.2 (by omega)
    have hbl : Blank s p := by
      have := hk0.1
      rw [blank_eq, h0] at this
      have h2 := Option.some.inj this
      unfold Blank
      simpa using h2
    refine ⟨c1, by omega, fun i hi hi2 => ?_, fun hh => absurd h0 hh⟩
    by_cases e : i = p
    · subst e; exact hbl
    · exact c3 i hi (by omega)
  · rw [if_neg h0]
    by_cases h1 : kd s p = last ∧ kd s p ≠ 3
    · rw [if_pos h1]
      obtain ⟨hl, he⟩ := c4 (by rw [← h1.1]; exact h0)
      obtain ⟨n, hn⟩ : ∃ n, l.length = n + 1 := ⟨l.length - 1, by omega⟩
      have hlp : lastP l = rd_T34 l (n : Int) := by unfold lastP; congr 1; omega
      obtain ⟨q1, q2, q3, q4, q5, q6⟩ := c1 n (by omega)
      have hm : ∀ i, i < n → l[i]? = (l.set (l.length - 1) ⟨(lastP l).f0, (lastP l).f1 ++ tx s p, (lastP l).f2⟩)[i]? := by
        intro i hi
        rw [List.getElem?_set_ne (by omega)]
      have hrd : rd_T34 (l.set (l.length - 1) ⟨(lastP l).f0, (lastP l).f1 ++ tx s p, (lastP l).f2⟩) (n : Int) = ⟨(lastP l).f0, (lastP l).f1 ++ tx s p, (lastP l).f2⟩ := by
        unfold rd_T34
        rw [Int.toNat_natCast, List.getD_eq_getElem?_getD, show l.length - 1 = n by omega, List.getElem?_set_self (by omega)]
        rfl
      generalize hL : l.set (l.length - 1) ⟨(lastP l).f0, (lastP l).f1 ++ tx s p, (lastP l).f2⟩ = L at hm hrd
      have hLl : L.length = n + 1 := by rw [← hL, List.length_set]; exact hn
      rw [hn] at he c2 c3
      have he2 : (rd_T34 l (n : Int)).f2.toNat + (rd_T34 l (n : Int)).f1.size = p := he
      have heL : endAt L (n + 1) = nx s p := by
        show (rd_T34 L (n : Int)).f2.toNat + (rd_T34 L (n : Int)).f1.size = _
        rw [hrd, hlp]
        show (rd_T34 l (n : Int)).f2.toNat + ((rd_T34 l (n : Int)).f1 ++ tx s p).size = _
        rw [size_append]
        omega
      have hen := end_same hm
      refine ⟨fun j hj => ?_, by rw [hLl]; omega, fun i hi hi2 => by rw [hLl] at hi; omega, fun _ => ⟨by omega, by rw [hLl]; exact heL⟩⟩
      by_cases e : j = n
      · subst e
        refine ⟨?_, ?_, ?_, by omega, ?_, ?_⟩
        · rw [hrd, hlp]; exact q1
        · rw [hrd, hlp]; show 0 < ((rd_T34 l (j : Int)).f1 ++ tx s p).size; rw [size_append]; omega
        · rw [← hen, hrd, hlp]; exact q3
        · rw [heL, hrd, hlp]
          show s.extract (rd_T34 l (j : Int)).f2.toNat (nx s p) = (rd_T34 l (j : Int)).f1 ++ tx s p
          rw [← q5, he]
          exact (extract_join s _ p (nx s p) (by omega) (by omega) hle).symm
        · rw [← hen, hrd, hlp]; exact q6
      · exact part_same (fun i hi => hm i (by omega)) (c1 j (by omega))
    · rw [if_neg h1]
      have hm : ∀ i, i < l.length → l[i]? = (l ++ [(⟨kd s p, tx s p, (p : Int)⟩ : S34)])[i]? := fun i hi => (List.getElem?_append_left hi).symm
      have hrd : rd_T34 (l ++ [(⟨kd s p, tx s p, (p : Int)⟩ : S34)]) (l.length : Int) = ⟨kd s p, tx s p, (p : Int)⟩ := by
        unfold rd_T34
        rw [Int.toNat_natCast, List.getD_eq_getElem?_getD, List.getElem?_append_right (Nat.le_refl _), Nat.sub_self]
        rfl
      generalize hL : l ++ [(⟨kd s p, tx s p, (p : Int)⟩ : S34)] = L at hm hrd
      have hLl : L.length = l.length + 1 := by rw [← hL, List.length_append]; rfl
      have heL : endAt L (l.length + 1) = nx s p := by
        show (rd_T34 L (l.length : Int)).f2.toNat + (rd_T34 L (l.length : Int)).f1.size = _
        rw [hrd]
        show (p : Int).toNat + (tx s p).size = _
        rw [Int.toNat_natCast]
        omega
      have hen := end_same hm
      refine ⟨fun j hj => ?_, by rw [hLl]; omega, fun i hi hi2 => by rw [hLl] at hi; omega, fun _ => ⟨by omega, by rw [hLl]; exact heL⟩⟩
      by_cases e : j = l.length
      · subst e
        refine ⟨?_, ?_, ?_, by omega, ?_, ?_⟩
        · rw [hrd]; exact Int.natCast_nonneg _
        · rw [hrd]; show 0 < (tx s p).size; omega
        · rw [← hen, hrd]; exact c2
        · rw [heL, hrd]; rfl
        · rw [← hen, hrd]; exact c3
      · exact part_same (fun i hi => hm i (by omega)) (c1 j (by omega))
theorem cov_run (s : ByteArray) {L : List S34} {last : Int} {p : Nat} {R : List S34} (h : Run s L last p R) (hp : p ≤ s.size) (hc : Cov s L last p) : ∃ last, Cov s R last s.size := by
  induction h with
  | done l last p h =>
    obtain rfl : p = s.size := by omega
    exact ⟨last, hc⟩
  | step l last p R h hb hk hn ih => exact ih (nx_le s p h) (cov_step s l last p h hb hk hc)
/-- The law's loops. -/
theorem gap_loop (s : ByteArray) (hs : s.size ≤ 2048) (l : List S34) (j : Nat) (y0 : Int) (y1 : ByteArray) (q : Nat) (hq : q ≤ s.size) (r : Bool) : ∀ (d i : Nat), i + d = q → (∀ n, i ≤ n → n < q → Blank s n) →
    Ev (fun k => computuslaw05_WordWhole.l0 k s l (wrap64 ((q : Int) + (y1.size : Int))) (wrap64 ((j : Int) + 1))) r → Ev (fun k => computuslaw05_WordWhole.l1 k s l (j : Int) (i : Int) y0 y1 (q : Int)) r := by
  intro d
  induction d with
  | zero =>
    intro i hi _ h
    refine Ev.step (fun k => ?_) h
    simp only [computuslaw05_WordWhole.l1]
    rw [if_neg (by omega)]
  | succ d ih =>
    intro i hi hb h
    refine Ev.step (fun k => ?_) (ih (i + 1) (by omega) (fun n h1 h2 => hb n (by omega) h2) h)
    simp only [computuslaw05_WordWhole.l1]
    have hw : wrap64 ((i : Int) + 1) = ((i + 1 : Nat) : Int) := by rw [wr _ (by omega) (by omega)]; omega
    rw [if_pos (by omega), if_pos (by omega), if_pos (by omega), hw]
    rcases hb i (Nat.le_refl _) (by omega) with h1 | h1 | h1 | h1
    · rw [if_pos h1]
    · rw [if_neg (by omega), if_pos h1]
    · rw [if_neg (by omega), if_neg (by omega), if_pos h1]
    · rw [if_neg (by omega), if_neg (by omega), if_neg (by omega), if_pos h1]
theorem end_loop (s : ByteArray) (hs : s.size ≤ 2048) : ∀ (d i : Nat), i + d = s.size → (∀ n, i ≤ n → n < s.size → Blank s n) → Ev (fun k => computuslaw05_WordWhole.l2 k s (i : Int)) true := by
  intro d
  induction d with
  | zero =>
    intro i hi _
    refine Ev.step (f := fun k => (computuslaw05_known.f k).bind fun t => some t) (fun k => ?_) (Ev.bind known_ev (Ev.now true))
    simp only [computuslaw05_WordWhole.l2]
    rw [if_neg (by omega)]
  | succ d ih =>
    intro i hi hb
    refine Ev.step (fun k => ?_) (ih (i + 1) (by omega) (fun n h1 h2 => hb n (by omega) h2))
    simp only [computuslaw05_WordWhole.l2]
    have hw : wrap64 ((i : Int) + 1) = ((i + 1 : Nat) : Int) := by rw [wr _ (by omega) (by omega)]; omega
    rw [if_pos (by omega), if_pos (by omega), hw]
    rcases hb i (Nat.le_refl _) (by omega) with h1 | h1 | h1 | h1
    · rw [if_pos h1]
    · rw [if_neg (by omega), if_pos h1]
    · rw [if_neg (by omega), if_neg (by omega), if_pos h1]
    · rw [if_neg (by omega), if_neg (by omega), if_neg (by omega), if_pos h1]
theorem whole_loop (s : ByteArray) (hs : s.size ≤ 2048) (l : List S34) (hl : l.length ≤ 2048) {last : Int} (hc : Cov s l last s.size) : ∀ (d j : Nat), j + d = l.length → Ev (fun k => computuslaw05_WordWhole.l0 k s l ((endAt l j : Nat) : Int) (j : Int)) true := by
  intro d
  induction d with
  | zero =>
    intro j hj
    obtain rfl : j = l.length := by omega
    refine Ev.step (fun k => ?_) (end_loop s hs (s.size - endAt l l.length) (endAt l l.length) (by have := hc.le; omega) hc.gap)
    simp only [computuslaw05_WordWhole.l0]
    rw [if_neg (by omega)]
  | succ d ih =>
    intro j hj
    obtain ⟨q1, q2, q3, q4, q5, q6⟩ := hc.parts j (by omega)
    have he : endAt l (j + 1) = (rd_T34 l (j : Int)).f2.toNat + (rd_T34 l (j : Int)).f1.size := rfl
    have h1 := ih (j + 1) (by omega)
    generalize hx : rd_T34 l (j : Int) = x at q1 q2 q3 q5 q6 he
    obtain ⟨y0, y1, y2⟩ := x
    simp only at q1 q2 q3 q5 q6 he
    obtain ⟨q, rfl⟩ := Int.eq_ofNat_of_zero_le q1
    rw [Int.toNat_natCast] at q3 q5 q6 he
    have hw1 : wrap64 ((q : Int) + (y1.size : Int)) = ((endAt l (j + 1) : Nat) : Int) := by rw [wr _ (by omega) (by omega)]; omega
    have hw2 : wrap64 ((j : Int) + 1) = ((j + 1 : Nat) : Int) := by rw [wr _ (by omega) (by omega)]; omega
    have hw3 : wrap64 ((s.size : Int) - (q : Int)) = (s.size : Int) - q := wr _ (by omega) (by omega)
    have h2 := gap_loop s hs l j y0 y1 q (by omega) true (q - endAt l j) (endAt l j) (by omega) q6 (by rw [hw1, hw2]; exact h1)
    have h3 : Ev (fun k => computuslaw05_WordWhole.j1 k s l ((endAt l j : Nat) : Int) (j : Int) false y0 y1 (q : Int)) true := by
      refine Ev.step (fun k => ?_) h2
      simp only [computuslaw05_WordWhole.j1]
      rw [if_neg (fun hh => by cases hh)]
    refine Ev.step (fun k => ?_) h3
    simp only [computuslaw05_WordWhole.l0]
    rw [if_pos (by omega), if_pos (by omega), hx]
    simp only
    rw [if_neg (by omega), if_neg (by omega), if_neg (by omega), hw3, if_neg (by omega), if_pos (by omega), hw1, if_pos (by omega), if_pos (by omega)]
    rw [Int.toNat_natCast, Int.toNat_natCast, q5]
    congr 1
    simp
end Go.Proofs.Ytlpbjpkjmagodaa.Lem
