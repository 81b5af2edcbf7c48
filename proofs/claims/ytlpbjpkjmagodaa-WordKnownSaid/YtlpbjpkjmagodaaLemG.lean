/- Small letters, what is the same but for them, where a text stands among others, and digits as a number: the program and the reference answer alike. Plain Lean over the printed functions. Conditions: the sizes that the rows give. -/
import Derived.Test.YtlpbjpkjmagodaaLemD
import Derived.Test.YtlpbjpkjmagodaaPWordx10
import Derived.Test.YtlpbjpkjmagodaaPWordx11
namespace Go.Proofs.Ytlpbjpkjmagodaa.Lem
open Go.RowKit Go.Proofs.Ytlpbjpkjmagodaa.PWord Go.Proofs.Ytlpbjpkjmagodaa.Utf Go.Proofs.YtlpbjpkjmagodaaW.PrintWords Go.Proofs.YtlpbjpkjmagodaaW.PrintLast Go.Proofs.YtlpbjpkjmagodaaW.PrintMore
set_option linter.unusedVariables false
set_option linter.unusedSimpArgs false

theorem bytes_len (s : ByteArray) : (bytesOf s).length = s.size := by simp [bytesOf]
theorem bytes_at (s : ByteArray) (i : Nat) (h : i < s.size) : (bytesOf s)[i]'(by rw [bytes_len]; exact h) = bt s (i : Int) := by
  rw [bt_get s i h]
  simp [bytesOf]
  rfl
theorem lowB_val (c : Int) (h0 : 0 ≤ c) (h1 : c ≤ 255) : (if c ≥ 65 then (if c ≤ 90 then (c + 32) % 256 else c) else c) = lowB c := by
  unfold lowB
  repeat' split
  all_goals omega
theorem lower_loop (s : ByteArray) (hs : s.size ≤ 140737488351232) : ∀ (d i : Nat), i + d = s.size → Ev (fun k => computusref05_Lower.l0 k s ((lowL s).take i) (i : Int)) (strOfNums (lowL s)) := by
  have hll : (lowL s).length = s.size := by unfold lowL; rw [List.length_map, bytes_len]
  intro d
  induction d with
  | zero =>
    intro i hi
    refine ev_now fun k => ?_
    simp only [computusref05_Lower.l0]
    rw [if_neg (by omega), List.take_of_length_le (by omega)]
  | succ d ih =>
    intro i hi
    refine Ev.step (fun k => ?_) (ih (i + 1) (by omega))
    simp only [computusref05_Lower.l0]
    have hr := bt_range s (i : Int)
    have hw : wrap64 ((i : Int) + 1) = ((i + 1 : Nat) : Int) := by rw [wr _ (by omega) (by omega)]; omega
    have hlen : ((lowL s).take i).length < 140737488355328 := by rw [List.length_take]; omega
    have hat : (lowL s)[i]'(by omega) = lowB (bt s (i : Int)) := by
      unfold lowL
      rw [List.getElem_map, bytes_at s i (by omega)]
    have htk : (lowL s).take (i + 1) = (lowL s).take i ++ [lowB (bt s (i : Int))] := by rw [List.take_succ_eq_append_getElem (by omega), hat]
    have hv := lowB_val (bt s (i : Int)) hr.1 hr.2
    rw [if_pos (by omega), if_pos (by omega), hw, htk, ← hv]
    by_cases c1 : bt s (i : Int) ≥ 65
    · rw [if_pos c1, if_pos c1]
      by_cases c2 : bt s (i : Int) ≤ 90
      · rw [if_pos c2, if_pos c2, if_pos hlen]
      · rw [if_neg c2, if_neg c2, if_pos hlen]
    · rw [if_neg c1, if_neg c1, if_pos hlen]
/-- A text in small letters. -/
def low (s : ByteArray) : ByteArray := strOfNums (lowL s)
theorem lower_eq (s : ByteArray) (hs : s.size ≤ 140737488351232) : word_Lower.f s = some (low s) ∧ Ev (fun k => computusref05_Lower.f k s) (low s) := by
  refine ⟨?_, lower_loop s hs s.size 0 (by omega)⟩
  unfold word_Lower.f
  rw [if_pos hs]
  rfl
theorem same_eq (a b : ByteArray) (ha : a.size ≤ 140737488351232) (hb : b.size ≤ 140737488351232) : word_Same.f a b = some ((low a).toList == (low b).toList) ∧ Ev (fun k => computusref05_Same.f k a b) ((low a).toList == (low b).toList) := by
  obtain ⟨h1, h2⟩ := lower_eq a ha
  obtain ⟨h3, h4⟩ := lower_eq b hb
  constructor
  · unfold word_Same.f
    rw [h1, h3]
    rfl
  · unfold computusref05_Same.f
    exact Ev.bind h2 (Ev.bind h4 (Ev.now _))
theorem rdOf_at (l : List ByteArray) (j : Nat) (h : j < l.length) : rdOf ByteArray.empty l (j : Int) = l[j] := by
  unfold rdOf
  rw [Int.toNat_natCast, List.getD_eq_getElem?_getD, List.getElem?_eq_getElem h]
  rfl
theorem known_loop (a : ByteArray) (l : List ByteArray) (ha : a.size ≤ 140737488351232) (hl : ∀ x ∈ l, x.size ≤ 140737488351232) (hn : l.length ≤ 8796093022208) : ∀ (d j : Nat), j + d = l.length →
    ∃ r, idxOpt (fun t => word_Same.f a t) l d j = some r ∧ Ev (fun k => computusref05_Known.l0 k a l (j : Int)) r := by
  intro d
  induction d with
  | zero =>
    intro j hj
    refine ⟨-1, rfl, ev_now fun k => ?_⟩
    simp only [computusref05_Known.l0]
    rw [if_neg (by omega)]
  | succ d ih =>
    intro j hj
    have hjl : j < l.length := by omega
    have hrd := rdOf_at l j hjl
    obtain ⟨h1, h2⟩ := same_eq a l[j] ha (hl _ (List.getElem_mem hjl))
    obtain ⟨r, h3, h4⟩ := ih (j + 1) (by omega)
    simp only [idxOpt, hrd, h1, Option.bind_some]
    have hw : wrap64 ((j : Int) + 1) = ((j + 1 : Nat) : Int) := by rw [wr _ (by omega) (by omega)]; omega
    have hstep : ∀ k, computusref05_Known.l0 (k + 1) a l (j : Int) = (computusref05_Same.f k a l[j]).bind fun t => if t = true then some (j : Int) else computusref05_Known.l0 k a l ((j + 1 : Nat) : Int) := by
      intro k
      simp only [computusref05_Known.l0]
      rw [if_pos (by omega), if_pos (by omega), hrd, hw]
    cases hc : ((low a).toList == (low l[j]).toList) with
    | true =>
      rw [hc] at h2
      refine ⟨(j : Int), rfl, Ev.step hstep (Ev.bind h2 ?_)⟩
      exact Ev.now _
    | false =>
      rw [hc] at h2
      refine ⟨r, h3, Ev.step hstep (Ev.bind h2 ?_)⟩
      exact h4
theorem known_eq (a : ByteArray) (l : List ByteArray) (ha : a.size ≤ 140737488351232) (hl : ∀ x ∈ l, x.size ≤ 140737488351232) (hn : l.length ≤ 8796093022208) : ∃ r, word_Known.f a l = some r ∧ Ev (fun k => computusref05_Known.f k a l) r := by
  obtain ⟨r, h1, h2⟩ := known_loop a l ha hl hn l.length 0 (by omega)
  refine ⟨r, ?_, h2⟩
  unfold word_Known.f
  rw [if_pos (by omega)]
  exact h1
theorem ext_size (s : ByteArray) (n : Nat) (h : n ≤ s.size) : (s.extract 0 n).size = n := by rw [← len_list, ext_list, List.length_take, List.length_drop, len_list]; omega
theorem short_loop (a : ByteArray) (l : List ByteArray) (ha : a.size ≤ 140737488351232) (h3 : 3 ≤ a.size) (hn : l.length ≤ 8796093022208) : ∀ (d j : Nat), j + d = l.length →
    ∃ r : Int, -1 ≤ r ∧ r ≤ l.length ∧ idxOpt (shortP a) l d j = some r ∧ Ev (fun k => computusref05_Short.l0 k a l (j : Int)) r := by
  intro d
  induction d with
  | zero =>
    intro j hj
    refine ⟨-1, by omega, by omega, rfl, 2, fun k hk => ?_⟩
    obtain ⟨k, rfl⟩ : ∃ m, k = m + 2 := ⟨k - 2, by omega⟩
    simp only [computusref05_Short.l0]
    rw [if_neg (by omega)]
    simp only [computusref05_Short.j1]
    rw [if_neg (fun hh => by cases hh)]
  | succ d ih =>
    intro j hj
    have hjl : j < l.length := by omega
    have hrd := rdOf_at l j hjl
    obtain ⟨r, hr1, hr2, h3', h4⟩ := ih (j + 1) (by omega)
    have hw : wrap64 ((j : Int) + 1) = ((j + 1 : Nat) : Int) := by rw [wr _ (by omega) (by omega)]; omega
    simp only [idxOpt, hrd]
    have hstep : ∀ k, computusref05_Short.l0 (k + 1) a l (j : Int) = computusref05_Short.j1 k a l (j : Int) true := by
      intro k
      simp only [computusref05_Short.l0]
      rw [if_pos (by omega)]
      congr 1
      exact decide_eq_true (by omega)
    by_cases hg : a.size ≤ l[j].size
    · have hsh : shortP a l[j] = word_Same.f a (l[j].extract 0 a.size) := by unfold shortP; rw [if_pos hg]
      obtain ⟨h1, h2⟩ := same_eq a (l[j].extract 0 a.size) ha (by rw [ext_size _ _ hg]; exact ha)
      have hstep2 : ∀ k, computusref05_Short.j1 (k + 1) a l (j : Int) true = (computusref05_Same.f k a (l[j].extract 0 a.size)).bind fun t => if t = true then some (j : Int) else computusref05_Short.l0 k a l ((j + 1 : Nat) : Int) := by
        intro k
        simp only [computusref05_Short.j1]
        rw [if_pos trivial, if_pos (by omega), if_pos (by omega), hrd, if_pos (by omega), if_pos (by omega), if_pos (by omega), Int.toNat_natCast, hw]
      rw [hsh, h1]
      simp only [Option.bind_some]
      cases hc : ((low a).toList == (low (l[j].extract 0 a.size)).toList) with
      | true =>
        rw [hc] at h2
        refine ⟨(j : Int), by omega, by omega, rfl, Ev.step hstep (Ev.step hstep2 (Ev.bind h2 ?_))⟩
        exact Ev.now _
      | false =>
        rw [hc] at h2
        refine ⟨r, hr1, hr2, h3', Ev.step hstep (Ev.step hstep2 (Ev.bind h2 ?_))⟩
        exact h4
    · have hsh : shortP a l[j] = some false := by unfold shortP; rw [if_neg hg]
      rw [hsh]
      refine ⟨r, hr1, hr2, h3', Ev.step hstep (Ev.step (fun k => ?_) h4)⟩
      simp only [computusref05_Short.j1]
      rw [if_pos trivial, if_pos (by omega), if_pos (by omega), hrd, if_neg (by omega), hw]
theorem short_eq (a : ByteArray) (l : List ByteArray) (ha : a.size ≤ 140737488351232) (hn : l.length ≤ 8796093022208) : ∃ r : Int, -1 ≤ r ∧ r ≤ l.length ∧ word_Short.f a l = some r ∧ Ev (fun k => computusref05_Short.f k a l) r := by
  by_cases h3 : a.size < 3
  · refine ⟨-1, by omega, by omega, by unfold word_Short.f; rw [if_pos h3], 2, fun k hk => ?_⟩
    obtain ⟨k, rfl⟩ : ∃ m, k = m + 2 := ⟨k - 2, by omega⟩
    show computusref05_Short.l0 (k + 2) a l 0 = some (-1)
    simp only [computusref05_Short.l0]
    have e : decide ((a.size : Int) ≥ 3) = false := decide_eq_false (by omega)
    rw [e]
    simp only [computusref05_Short.j1]
    split <;> rw [if_neg (fun hh => by cases hh)]
  · obtain ⟨r, h1, h2, h4, h5⟩ := short_loop a l ha (by omega) hn l.length 0 (by omega)
    refine ⟨r, h1, h2, ?_, h5⟩
    unfold word_Short.f
    rw [if_neg h3, if_pos (by omega)]
    exact h4
theorem short_then (a : ByteArray) (l : List ByteArray) (g : Int → Int) (ha : a.size ≤ 140737488351232) (hn : l.length ≤ 8796093022208) :
    ∃ r, ((word_Short.f a l).bind fun t => some (g t)) = some r ∧ Ev (fun k => (computusref05_Short.f k a l).bind fun t => some (g t)) r := by
  obtain ⟨r, _, _, h1, h2⟩ := short_eq a l ha hn
  refine ⟨g r, ?_, Ev.bind h2 (Ev.now _)⟩
  rw [h1]
  rfl
theorem month_eq (a : ByteArray) (ha : a.size ≤ 140737488351232) : ∃ r, word_Month.f a = some r ∧ Ev (fun k => computusref05_Month.f k a) r := short_then a _ _ ha (by simp)
theorem day_eq (a : ByteArray) (ha : a.size ≤ 140737488351232) : ∃ r, word_Day.f a = some r ∧ Ev (fun k => computusref05_Day.f k a) r := short_then a _ _ ha (by simp)
/-- What lies between the two numbers, digit by digit. -/
structure NumRel (n n' why : Int) : Prop where
  ok : why = 0 → n = n'
  no : why ≠ 0 → n = 0
  ge : 0 ≤ n'
  le : n' ≤ 9223372036854775807
theorem add_eq (a b : Int) (ha : 0 ≤ a) (ha2 : a ≤ 9223372036854775807) (hb : 0 ≤ b) (hb2 : b ≤ 9) : num_Add.f a b = some (if a + b ≤ 9223372036854775807 then (a + b, 0) else (0, 10)) := by
  unfold num_Add.f
  by_cases h : a + b ≤ 9223372036854775807
  · rw [if_pos h, wr _ (by omega) h, if_neg]
    by_cases h0 : b = 0
    · subst h0; simp
    · have e1 : decide (a + b > a) = true := decide_eq_true (by omega)
      have e2 : decide (b > 0) = true := decide_eq_true (by omega)
      rw [e1, e2]
      simp
  · rw [if_neg h, if_pos]
    have e1 : decide (wrap64 (a + b) > a) = false := decide_eq_false (by unfold wrap64; omega)
    have e2 : decide (b > 0) = true := decide_eq_true (by omega)
    rw [e1, e2]
    rfl
theorem num_over (s : ByteArray) (p : Nat) (n c : Int) (hs : s.size ≤ 140737488351232) (h : p < s.size) : ∀ k, computusref05_Number.j1 (k + 1) s n 0 (p : Int) c true = computusref05_Number.l0 k s n 10 ((p + 1 : Nat) : Int) := by
  intro k
  have hwr : wrap64 ((p : Int) + 1) = ((p + 1 : Nat) : Int) := by rw [wr _ (by omega) (by omega)]; omega
  simp only [computusref05_Number.j1]
  rw [if_pos trivial, if_neg (by omega), hwr]
theorem num_step (s : ByteArray) (p : Nat) (n : Int) (hs : s.size ≤ 140737488351232) (h : p < s.size) (hdg : computusref05_digit.f (bt s p) = some true) (hd : 48 ≤ bt s p ∧ bt s p ≤ 57) (h0 : 0 ≤ n) (h1 : n ≤ 9223372036854775807) :
    ∀ k, computusref05_Number.l0 (k + 1) s n 0 (p : Int) = (if n > 922337203685477580 then computusref05_Number.j1 k s n 0 (p : Int) (bt s p - 48) true else computusref05_Number.j1 k s n 0 (p : Int) (bt s p - 48) (decide (10 * n > 9223372036854775807 - (bt s p - 48)))) := by
  intro k
  have a1 : (p : Int) < (s.size : Int) := by omega
  have a2 : 0 ≤ (p : Int) := by omega
  have hm : (bt s p - 48) % 256 = bt s p - 48 := by omega
  have hw : ¬ n > 922337203685477580 → wrap64 (10 * n) = 10 * n := fun hb => wr (10 * n) (by omega) (by omega)
  simp only [computusref05_Number.l0, if_pos a1, if_pos a2, hdg, Option.bind_some, hm]
  by_cases hb : n > 922337203685477580
  · simp only [if_pos hb, if_true]
  · simp only [if_neg hb, hw hb, if_true]
/-- What is to be shown from a place on. -/
def NumAt (s : ByteArray) (d p : Nat) (n n' why : Int) : Prop := ∃ r, numLoop s d n why p = some r ∧ Ev (fun k => computusref05_Number.l0 k s n' why (p : Int)) r
theorem num_no (s : ByteArray) (d p : Nat) (n n' why : Int) (h : p < s.size) (hk : kindR (Utf8.decode s p).1 ≠ 1) (hdg : computusref05_digit.f (bt s p) = some false) : NumAt s (d + 1) p n n' why := by
  have a1 : (p : Int) < (s.size : Int) := by omega
  have a2 : 0 ≤ (p : Int) := by omega
  refine ⟨(0, 13), ?_, ev_now fun k => ?_⟩
  · simp only [numLoop, if_pos h, if_neg hk]
  · simp only [computusref05_Number.l0, if_pos a1, if_pos a2, hdg, Option.bind_some]
    rw [if_neg (fun hh => by cases hh)]
theorem num_end (s : ByteArray) (d p : Nat) (n n' why : Int) (h : ¬ p < s.size) (hR : NumRel n n' why) : NumAt s (d + 1) p n n' why := by
  obtain ⟨r1, r2, _, _⟩ := hR
  have a1 : ¬ (p : Int) < (s.size : Int) := by omega
  by_cases h0 : s.size = 0
  · refine ⟨(0, 13), ?_, ev_now fun k => ?_⟩
    · simp only [numLoop, if_neg h, if_pos h0]
    · simp only [computusref05_Number.l0, if_neg a1]
      rw [if_pos (by rw [h0]; rfl)]
  · have a2 : ¬ (s.size : Int) = 0 := by omega
    refine ⟨(n, why), ?_, ev_now fun k => ?_⟩
    · simp only [numLoop, if_neg h, if_neg h0]
    · simp only [computusref05_Number.l0, if_neg a1, if_neg a2]
      by_cases hwy : why = 0
      · rw [if_pos hwy, r1 hwy, hwy]
      · rw [if_neg hwy, r2 hwy]
theorem num_past (s : ByteArray) (hs : s.size ≤ 140737488351232) (d p : Nat) (n n' why : Int) (h : p < s.size) (hw : p + (Utf8.decode s p).2 = p + 1) (hk : kindR (Utf8.decode s p).1 = 1) (hdg : computusref05_digit.f (bt s p) = some true) (hwy : why ≠ 0)
    (ih : NumAt s d (p + 1) n n' why) : NumAt s (d + 1) p n n' why := by
  obtain ⟨r, e1, e2⟩ := ih
  have a1 : (p : Int) < (s.size : Int) := by omega
  have a2 : 0 ≤ (p : Int) := by omega
  have hwr : wrap64 ((p : Int) + 1) = ((p + 1 : Nat) : Int) := by rw [wr _ (by omega) (by omega)]; omega
  refine ⟨r, ?_, Ev.step (f := fun k => computusref05_Number.j1 k s n' why (p : Int) ((bt s p - 48) % 256) false) (fun k => ?_) (Ev.step (fun k => ?_) e2)⟩
  · simp only [numLoop, if_pos h, if_pos hk, if_neg hwy, hw]
    exact e1
  · simp only [computusref05_Number.l0, if_pos a1, if_pos a2, hdg, Option.bind_some, if_neg hwy]
    rw [if_pos trivial]
  · simp only [computusref05_Number.j1, if_neg hwy, hwr]
    rw [if_neg (fun hh => by cases hh)]
theorem num_good (s : ByteArray) (hs : s.size ≤ 140737488351232) (d p : Nat) (n : Int) (h : p < s.size) (hw : p + (Utf8.decode s p).2 = p + 1) (hk : kindR (Utf8.decode s p).1 = 1) (hc : ((Utf8.decode s p).1 : Int) = bt s p) (hdg : computusref05_digit.f (bt s p) = some true)
    (hd : 48 ≤ bt s p ∧ bt s p ≤ 57) (h0 : 0 ≤ n) (h1 : n ≤ 9223372036854775807)
    (ihy : 10 * n + (bt s p - 48) ≤ 9223372036854775807 → NumAt s d (p + 1) (10 * n + (bt s p - 48)) (10 * n + (bt s p - 48)) 0) (ihn : NumAt s d (p + 1) 0 n 10) : NumAt s (d + 1) p n n 0 := by
  have hs2 := num_step s p n hs h hdg hd h0 h1
  have hj1 := num_over s p n (bt s p - 48) hs h
  have hwr : wrap64 ((p : Int) + 1) = ((p + 1 : Nat) : Int) := by rw [wr _ (by omega) (by omega)]; omega
  have hL : numLoop s (d + 1) n 0 p = (num_Mul.f n 10).bind fun m => if m.2 = 0 then (num_Add.f m.1 (bt s p - 48)).bind fun a => numLoop s d a.1 a.2 (p + 1) else numLoop s d m.1 m.2 (p + 1) := by
    have hk2 : kindR (bt s p) = 1 := by rw [← hc]; exact hk
    simp only [numLoop, if_pos h, hc, if_pos hk2, hw, if_true]
  have hmul : num_Mul.f n 10 = (if 10 * n ≤ 9223372036854775807 then some (10 * n, 0) else some (0, 10)) := by
    unfold num_Mul.f
    rw [if_pos ⟨h0, h1, rfl⟩]
  by_cases hx : 10 * n + (bt s p - 48) ≤ 9223372036854775807
  · obtain ⟨r, e1, e2⟩ := ihy hx
    have h10 : 10 * n ≤ 9223372036854775807 := by clear hs2 hj1 hwr hL hmul e1 e2 ihy ihn; omega
    have hadd := add_eq (10 * n) (bt s p - 48) (by clear hs2 hj1 hwr hL hmul e1 e2 ihy ihn; omega) h10 (by omega) (by omega)
    rw [if_pos hx] at hadd
    rw [if_pos h10] at hmul
    have c1 : ¬ n > 922337203685477580 := by clear hs2 hj1 hwr hL hmul e1 e2 ihy ihn hadd; omega
    have c2 : decide (10 * n > 9223372036854775807 - (bt s p - 48)) = false := decide_eq_false (by clear hs2 hj1 hwr hL hmul e1 e2 ihy ihn hadd; omega)
    have c3 : wrap64 (10 * n) = 10 * n := wr _ (by clear hs2 hj1 hwr hL hmul e1 e2 ihy ihn hadd; omega) h10
    have c4 : wrap64 (10 * n + (bt s p - 48)) = 10 * n + (bt s p - 48) := wr _ (by clear hs2 hj1 hwr hL hmul e1 e2 ihy ihn hadd; omega) hx
    refine ⟨r, ?_, ?_⟩
    · rw [hL, hmul]
      simp only [Option.bind_some, if_true, hadd]
      exact e1
    · simp only [if_neg c1, c2] at hs2
      refine Ev.step hs2 (Ev.step (fun k => ?_) e2)
      simp only [computusref05_Number.j1, c3, c4, hwr]
      rw [if_neg (fun hh => by cases hh), if_pos trivial]
  · obtain ⟨r, e1, e2⟩ := ihn
    refine ⟨r, ?_, ?_⟩
    · by_cases h10 : 10 * n ≤ 9223372036854775807
      · have hadd := add_eq (10 * n) (bt s p - 48) (by clear hs2 hj1 hwr hL hmul e1 e2 ihy; omega) h10 (by omega) (by omega)
        rw [if_neg hx] at hadd
        rw [hL, hmul, if_pos h10]
        simp only [Option.bind_some, if_true, hadd]
        exact e1
      · rw [hL, hmul, if_neg h10]
        simp only [Option.bind_some]
        rw [if_neg (by decide)]
        exact e1
    · refine Ev.step hs2 (Ev.congr (f := fun k => computusref05_Number.j1 k s n 0 (p : Int) (bt s p - 48) true) (fun k => ?_) (Ev.step hj1 e2))
      by_cases hb : n > 922337203685477580
      · exact if_pos hb
      · rw [if_neg hb, decide_eq_true (by clear hs2 hj1 hwr hL hmul e1 e2 ihy; omega)]
theorem number_loop (s : ByteArray) (hs : s.size ≤ 140737488351232) : ∀ (d p : Nat) (n n' why : Int), s.size - p < d → p ≤ s.size → NumRel n n' why → NumAt s d p n n' why := by
  intro d
  induction d with
  | zero => intro p n n' why hd; omega
  | succ d ih =>
    intro p n n' why hd hp hR
    by_cases h : p < s.size
    · have ihp := fun n n' why (hR : NumRel n n' why) => ih (p + 1) n n' why (by omega) (by omega) hR
      clear ih hd hp
      by_cases h0 : bt s p < 128
      · obtain ⟨k1, k2⟩ := kd_low s p h h0
        have hc : ((Utf8.decode s p).1 : Int) = bt s p := by
          rcases tells s p h with ⟨h1, h2, h3⟩ | ⟨h1, h2, h3⟩ | ⟨h1, h2, h3⟩ | ⟨h1, h2, h3⟩ | ⟨h1, h2, h3⟩
          · exact h2
          · have := h1.2.1; omega
          · have := h1.2.1; omega
          · have := h1.2.1; omega
          · have := h1.1; omega
        by_cases h1 : kindR (bt s p) = 1
        · have hd1 := (kindR_eq1 (bt s p)).mp h1
          have hdg : computusref05_digit.f (bt s p) = some true := by rw [digit_eq, decide_eq_true hd1]
          have hk : kindR (Utf8.decode s p).1 = 1 := by rw [hc]; exact h1
          by_cases hwy : why = 0
          · subst hwy
            obtain ⟨r1, r2, r3, r4⟩ := hR
            obtain rfl := r1 rfl
            refine num_good s hs d p n h k2 hk hc hdg hd1 r3 r4 (fun hx => ihp _ _ _ ⟨fun _ => rfl, fun hh => absurd rfl hh, ?_, hx⟩) (ihp _ _ _ ⟨fun hh => absurd hh (by decide), fun _ => rfl, r3, r4⟩)
            clear ihp r1 r2 hx r4
            omega
          · exact num_past s hs d p n n' why h k2 hk hdg hwy (ihp _ _ _ hR)
        · exact num_no s d p n n' why h (by rw [hc]; exact h1) (by rw [digit_eq, decide_eq_false (fun hh => h1 ((kindR_eq1 _).mpr hh))])
      · have hk : kindR (Utf8.decode s p).1 = 2 := kd_high s p h (by omega)
        exact num_no s d p n n' why h (by rw [hk]; decide) (by rw [digit_eq, decide_eq_false (by omega)])
    · exact num_end s d p n n' why h hR
theorem number_eq (s : ByteArray) (hs : s.size ≤ 140737488351232) : ∃ r, word_Number.f s = some r ∧ Ev (fun k => computusref05_Number.f k s) r :=
  number_loop s hs (s.size + 1) 0 0 0 0 (by omega) (Nat.zero_le _) ⟨fun _ => rfl, fun hh => absurd rfl hh, by omega, by omega⟩
end Go.Proofs.Ytlpbjpkjmagodaa.Lem
