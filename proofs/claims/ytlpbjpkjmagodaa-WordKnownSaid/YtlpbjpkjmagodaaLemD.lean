/- The reference's parts are those of the program: plain Lean over the printed functions. Conditions: none but a text's own. -/
import Derived.Test.YtlpbjpkjmagodaaLemC
namespace Go.Proofs.Ytlpbjpkjmagodaa.Lem
open Go.RowKit Go.Proofs.Ytlpbjpkjmagodaa.PWord Go.Proofs.Ytlpbjpkjmagodaa.Utf Go.Proofs.YtlpbjpkjmagodaaW.PrintWords Go.Proofs.YtlpbjpkjmagodaaW.PrintLast Go.Proofs.YtlpbjpkjmagodaaW.PrintMore
set_option linter.unusedVariables false
set_option linter.unusedSimpArgs false

def cv (x : S34) : S47 := ⟨x.f0, x.f1, x.f2⟩
theorem map_snoc (l : List S34) (a : Int) (b : ByteArray) (c : Int) : (l ++ [(⟨a, b, c⟩ : S34)]).map cv = l.map cv ++ [(⟨a, b, c⟩ : S47)] := by rw [List.map_append]; rfl
theorem Ev.here {α : Type} {g : Nat → Option α} {r : α} {f : Nat → Option α} {K : Nat} (h : ∀ k, K ≤ k → g (k + 1) = f k) (e : Ev f r) : Ev g r := by
  obtain ⟨K2, h2⟩ := e
  refine ⟨max K K2 + 1, fun k hk => ?_⟩
  obtain ⟨k, rfl⟩ : ∃ m, k = m + 1 := ⟨k - 1, by omega⟩
  exact (h k (by omega)).trans (h2 k (by omega))
theorem ev_now {α : Type} {g : Nat → Option α} {r : α} (h : ∀ k, g (k + 1) = some r) : Ev g r := ⟨1, fun k hk => by
  obtain ⟨k, rfl⟩ : ∃ m, k = m + 1 := ⟨k - 1, by omega⟩
  exact h k⟩
/-- Bytes that are letters are passed over one by one. -/
theorem letters (s : ByteArray) (hs : s.size ≤ 2048) (x : List S47) (st : Int) (r : List S47 × Int × Int) : ∀ (n p : Nat), p + n ≤ s.size → (∀ j, j < n → computusref05_letter.f (bt s (p + j : Nat)) = some true) →
    Ev (fun k => computusref05_Split.l3 k s x st ((p + n : Nat) : Int)) r → Ev (fun k => computusref05_Split.l3 k s x st (p : Int)) r := by
  intro n
  induction n with
  | zero => intro p _ _ h; exact h
  | succ n ih =>
    intro p hp hl h
    have h1 := ih (p + 1) (by omega) (fun j hj => by have := hl (j + 1) (by omega); rwa [show p + (j + 1) = p + 1 + j by omega] at this) (by rwa [show p + (n + 1) = p + 1 + n by omega] at h)
    refine Ev.step (fun k => ?_) h1
    simp only [computusref05_Split.l3]
    have h2 := hl 0 (by omega)
    rw [Nat.add_zero] at h2
    rw [if_pos (by omega), if_pos (by omega), h2]
    simp only [Option.bind_some]
    rw [if_pos trivial, wr _ (by omega) (by omega)]
    congr 1
theorem digits (s : ByteArray) (hs : s.size ≤ 2048) (x : List S47) (st : Int) (r : List S47 × Int × Int) (p : Nat) (hp : p < s.size) (hl : computusref05_digit.f (bt s p) = some true)
    (h : Ev (fun k => computusref05_Split.l2 k s x st ((p + 1 : Nat) : Int)) r) : Ev (fun k => computusref05_Split.l2 k s x st (p : Int)) r := by
  refine Ev.step (fun k => ?_) h
  simp only [computusref05_Split.l2]
  rw [if_pos (by omega), if_pos (by omega), hl]
  simp only [Option.bind_some]
  rw [if_pos trivial, wr _ (by omega) (by omega)]
  congr 1
/-- A run of digits, or of letters, ends. -/
theorem close2 (s : ByteArray) (hs : s.size ≤ 2048) (x : List S47) (hx : x.length ≤ 4096) (st p : Nat) (hst : st ≤ p) (hp : p ≤ s.size) (r : List S47 × Int × Int) (hl : p < s.size → computusref05_digit.f (bt s p) = some false)
    (h : Ev (fun k => computusref05_Split.l1 k s (x ++ [⟨1, s.extract st p, (st : Int)⟩]) (p : Int)) r) : Ev (fun k => computusref05_Split.l2 k s x (st : Int) (p : Int)) r := by
  refine Ev.step (fun k => ?_) h
  simp only [computusref05_Split.l2]
  by_cases h1 : p < s.size
  · rw [if_pos (by omega), if_pos (by omega), hl h1]
    simp only [Option.bind_some]
    rw [if_neg (fun hh => by cases hh), if_pos (by omega), if_pos (by omega), if_pos (by omega), if_pos (by omega)]
    rfl
  · rw [if_neg (by omega), if_pos (by omega), if_pos (by omega), if_pos (by omega), if_pos (by omega)]
    rfl
theorem close3 (s : ByteArray) (hs : s.size ≤ 2048) (x : List S47) (hx : x.length ≤ 4096) (st p : Nat) (hst : st ≤ p) (hp : p ≤ s.size) (r : List S47 × Int × Int) (hl : p < s.size → computusref05_letter.f (bt s p) = some false)
    (h : Ev (fun k => computusref05_Split.l1 k s (x ++ [⟨2, s.extract st p, (st : Int)⟩]) (p : Int)) r) : Ev (fun k => computusref05_Split.l3 k s x (st : Int) (p : Int)) r := by
  refine Ev.step (fun k => ?_) h
  simp only [computusref05_Split.l3]
  by_cases h1 : p < s.size
  · rw [if_pos (by omega), if_pos (by omega), hl h1]
    simp only [Option.bind_some]
    rw [if_neg (fun hh => by cases hh), if_pos (by omega), if_pos (by omega), if_pos (by omega), if_pos (by omega)]
    rfl
  · rw [if_neg (by omega), if_pos (by omega), if_pos (by omega), if_pos (by omega), if_pos (by omega)]
    rfl
/-- The next rune's kind, as bytes tell it. -/
theorem kinds (s : ByteArray) (p : Nat) (h : p < s.size) (hb : ¬ Bad s p) (hk : kd s p ≠ 4) :
    computusref05_blank.f (bt s p) = some (decide (kd s p = 0)) ∧ computusref05_digit.f (bt s p) = some (decide (kd s p = 1)) ∧ computusref05_letter.f (bt s p) = some (decide (kd s p = 2)) ∧ (kd s p ≠ 2 → nx s p = p + 1) := by
  rw [blank_eq, digit_eq, letter_eq]
  have hr := bt_range s (p : Int)
  by_cases h0 : bt s p < 128
  · obtain ⟨h1, h2⟩ := kd_low s p h h0
    rw [h1]
    refine ⟨?_, ?_, ?_, fun _ => h2⟩ <;> congr 1 <;> apply decide_eq_decide.mpr
    · exact (kindR_eq0 _).symm
    · exact (kindR_eq1 _).symm
    · exact (kindR_eq2 _).symm
  · have h1 := kd_high s p h (by omega)
    rw [h1]
    refine ⟨?_, ?_, ?_, fun h => absurd rfl h⟩ <;> congr 1 <;> apply decide_eq_decide.mpr <;> omega
theorem letters_of (s : ByteArray) (p : Nat) (h : p < s.size) (hb : ¬ Bad s p) (hk : kd s p = 2) (j : Nat) (hj : j < (Utf8.decode s p).2) : computusref05_letter.f (bt s (p + j : Nat)) = some true := by
  by_cases h0 : bt s p < 128
  · obtain ⟨h1, h2⟩ := kd_low s p h h0
    unfold nx at h2
    obtain rfl : j = 0 := by omega
    have := (kinds s p h hb (by omega)).2.2.1
    rw [hk] at this
    exact this
  · have := high_bytes s p h hb (by omega) j hj
    rw [letter_eq]
    congr 1
    exact decide_eq_true (by omega)
theorem kd_range (s : ByteArray) (p : Nat) : 0 ≤ kd s p ∧ kd s p ≤ 4 := kindR_range _
theorem extract_join (s : ByteArray) (a b c : Nat) (h1 : a ≤ b) (h2 : b ≤ c) (h3 : c ≤ s.size) : s.extract a b ++ s.extract b c = s.extract a c := by
  apply ByteArray.ext
  apply Array.toList_inj.mp
  rw [ByteArray.data_append, Array.toList_append, ext_list, ext_list, ext_list]
  obtain ⟨m, rfl⟩ : ∃ m, b = a + m := ⟨b - a, by omega⟩
  obtain ⟨n, rfl⟩ : ∃ n, c = a + m + n := ⟨c - (a + m), by omega⟩
  rw [show a + m - a = m by omega, show a + m + n - (a + m) = n by omega, show a + m + n - a = m + n by omega, ← List.drop_drop, List.take_add]
theorem ref_run (s : ByteArray) (hs : s.size ≤ 2048) {l : List S34} {last : Int} {p : Nat} {R : List S34} (h : Run s l last p R) (hp : p ≤ s.size) (hl : l.length ≤ p) :
    ((p < s.size → ¬ (kd s p ≠ 0 ∧ kd s p = last ∧ kd s p ≠ 3)) → Ev (fun k => computusref05_Split.l1 k s (l.map cv) (p : Int)) (R.map cv, 0, 0)) ∧
    (∀ (l' : List S34) (st : Nat), (last = 1 ∨ last = 2) → st < p → l = l' ++ [⟨last, s.extract st p, (st : Int)⟩] → Ev (fun k => if last = 1 then computusref05_Split.l2 k s (l'.map cv) (st : Int) (p : Int) else computusref05_Split.l3 k s (l'.map cv) (st : Int) (p : Int)) (R.map cv, 0, 0)) := by
  induction h with
  | done l last p h =>
    have hA : Ev (fun k => computusref05_Split.l1 k s (l.map cv) (p : Int)) (l.map cv, 0, 0) := by
      refine ev_now fun k => ?_
      simp only [computusref05_Split.l1]
      rw [if_neg (by omega)]
    refine ⟨fun _ => hA, ?_⟩
    intro l' st hlast hst he
    subst he
    rw [map_snoc] at hA ⊢
    rw [List.length_append] at hl
    rcases hlast with rfl | rfl
    · exact close2 s hs _ (by rw [List.length_map]; omega) st p (by omega) hp _ (fun hh => by omega) hA
    · exact close3 s hs _ (by rw [List.length_map]; omega) st p (by omega) hp _ (fun hh => by omega) hA
  | step l last p R h hb hk hn ih =>
    have hnx := nx_gt s p h
    have hne := nx_le s p h
    obtain ⟨k0, k1, k2, kn⟩ := kinds s p h hb hk
    have hr := kd_range s p
    have hln : (nextL s l last p).length ≤ nx s p := by
      unfold nextL
      split
      · omega
      · split
        · rw [List.length_set]; omega
        · rw [List.length_append]; simp only [List.length_cons, List.length_nil]; omega
    obtain ⟨ihA, ihB⟩ := ih hne hln
    have hA : (¬ (kd s p ≠ 0 ∧ kd s p = last ∧ kd s p ≠ 3)) → Ev (fun k => computusref05_Split.l1 k s (l.map cv) (p : Int)) (R.map cv, 0, 0) := by
      intro hnm
      have hstep : ∀ k, computusref05_Split.l1 (k + 1) s (l.map cv) (p : Int) = (if kd s p = 0 then computusref05_Split.l1 k s (l.map cv) ((p + 1 : Nat) : Int) else if kd s p = 1 then computusref05_Split.l2 k s (l.map cv) (p : Int) (p : Int) else if kd s p = 2 then computusref05_Split.l3 k s (l.map cv) (p : Int) (p : Int) else computusref05_Split.l1 k s (l.map cv ++ [⟨3, s.extract p (p + 1), (p : Int)⟩]) ((p + 1 : Nat) : Int)) := by
        intro k
        simp only [computusref05_Split.l1]
        have e1 : wrap64 ((p : Int) + 1) = ((p + 1 : Nat) : Int) := by rw [wr _ (by omega) (by omega)]; omega
        rw [if_pos (by omega), if_pos (by omega), k0, k1, k2, e1]
        simp only [Option.bind_some, decide_eq_true_eq]
        by_cases c0 : kd s p = 0
        · rw [if_pos c0, if_pos c0]
        · rw [if_neg c0, if_neg c0]
          by_cases c1 : kd s p = 1
          · rw [if_pos c1, if_pos c1]
          · rw [if_neg c1, if_neg c1]
            by_cases c2 : kd s p = 2
            · rw [if_pos c2, if_pos c2]
            · rw [if_neg c2, if_neg c2, if_pos (by omega), if_pos (by omega), if_pos (by rw [List.length_map]; omega)]
              rfl
      refine Ev.step hstep ?_
      by_cases c0 : kd s p = 0
      · have hN : nextL s l last p = l := by unfold nextL; rw [if_pos c0]
        rw [hN] at ihA
        have h1 := ihA (fun _ hh => by rw [c0] at hh; omega)
        rw [kn (by omega)] at h1
        refine Ev.congr (fun k => ?_) h1
        rw [if_pos c0]
      · have hN : nextL s l last p = l ++ [⟨kd s p, tx s p, (p : Int)⟩] := by unfold nextL; rw [if_neg c0, if_neg (fun hh => hnm ⟨c0, hh⟩)]
        by_cases c1 : kd s p = 1
        · have hx : tx s p = s.extract p (nx s p) := rfl
          have h1 := ihB l p (.inl c1) hnx (by rw [hN, hx])
          have h2 : Ev (fun k => computusref05_Split.l2 k s (l.map cv) (p : Int) ((p + 1 : Nat) : Int)) (R.map cv, 0, 0) := by
            refine Ev.congr (fun k => ?_) h1
            rw [if_pos c1, kn (by omega)]
          refine Ev.congr (fun k => ?_) (digits s hs _ _ _ p h (by rw [k1, c1]; rfl) h2)
          rw [if_neg c0, if_pos c1]
        · by_cases c2 : kd s p = 2
          · have hx : tx s p = s.extract p (nx s p) := rfl
            have h1 := ihB l p (.inr c2) hnx (by rw [hN, hx])
            have h2 : Ev (fun k => computusref05_Split.l3 k s (l.map cv) (p : Int) ((p + (Utf8.decode s p).2 : Nat) : Int)) (R.map cv, 0, 0) := by
              refine Ev.congr (fun k => ?_) h1
              rw [if_neg c1]
              rfl
            refine Ev.congr (fun k => ?_) (letters s hs _ _ _ (Utf8.decode s p).2 p hne (letters_of s p h hb c2) h2)
            rw [if_neg c0, if_neg c1, if_pos c2]
          · have c3 : kd s p = 3 := by omega
            rw [hN] at ihA
            have h1 := ihA (fun _ hh => by rw [c3] at hh; omega)
            rw [map_snoc, kn (by omega), c3] at h1
            have hx : tx s p = s.extract p (p + 1) := by have := kn (by omega); unfold tx; unfold nx at this; rw [this]
            rw [hx] at h1
            refine Ev.congr (fun k => ?_) h1
            rw [if_neg c0, if_neg c1, if_neg c2]
    refine ⟨fun hh => hA (hh h), ?_⟩
    intro l' st hlast hst he
    by_cases hm : kd s p ≠ 0 ∧ kd s p = last ∧ kd s p ≠ 3
    · obtain ⟨m0, m1, m3⟩ := hm
      have hll : lastP l = ⟨last, s.extract st p, (st : Int)⟩ := by
        rw [he]
        unfold lastP rd_T34
        have e : (((l' ++ [(⟨last, s.extract st p, (st : Int)⟩ : S34)]).length : Int) - 1).toNat = l'.length := by rw [List.length_append]; simp only [List.length_cons, List.length_nil]; omega
        rw [e, List.getD_eq_getElem?_getD, List.getElem?_append_right (Nat.le_refl _), Nat.sub_self]
        rfl
      have hN : nextL s l last p = l' ++ [⟨last, s.extract st (nx s p), (st : Int)⟩] := by
        unfold nextL
        rw [if_neg m0, if_pos ⟨m1, m3⟩, hll]
        simp only
        have hj : s.extract st p ++ tx s p = s.extract st (nx s p) := extract_join s st p (nx s p) (by omega) (by omega) hne
        rw [hj, he, List.length_append]
        simp only [List.length_cons, List.length_nil, Nat.add_sub_cancel, Nat.zero_add]
        rw [List.set_append_right _ _ (Nat.le_refl _), Nat.sub_self]
        rfl
      have h1 := ihB l' st (by rw [m1]; exact hlast) (by omega) (by rw [hN, m1])
      rcases hlast with rfl | rfl
      · refine Ev.congr (fun k => ?_) (digits s hs (l'.map cv) (st : Int) _ p h (by rw [k1, m1]; rfl) (Ev.congr (fun k => ?_) h1))
        · rw [if_pos rfl]
        · rw [if_pos m1, kn (by omega)]
      · refine Ev.congr (fun k => ?_) (letters s hs (l'.map cv) (st : Int) _ (Utf8.decode s p).2 p hne (letters_of s p h hb m1) (Ev.congr (fun k => ?_) h1))
        · rw [if_neg (by omega)]
        · rw [if_neg (by omega)]; rfl
    · have h1 := hA hm
      rw [he, map_snoc] at h1
      have hl2 : l'.length + 1 ≤ p := by rw [he, List.length_append] at hl; exact hl
      rcases hlast with rfl | rfl
      · refine Ev.congr (fun k => ?_) (close2 s hs (l'.map cv) (by rw [List.length_map]; omega) st p (by omega) hp _ (fun _ => by rw [k1, decide_eq_false (by omega)]) h1)
        rw [if_pos rfl]
      · refine Ev.congr (fun k => ?_) (close3 s hs (l'.map cv) (by rw [List.length_map]; omega) st p (by omega) hp _ (fun _ => by rw [k2, decide_eq_false (by omega)]) h1)
        rw [if_neg (by omega)]
theorem run_len (s : ByteArray) {l : List S34} {last : Int} {p : Nat} {R : List S34} (h : Run s l last p R) (hp : p ≤ s.size) (hl : l.length ≤ p) : R.length ≤ s.size := by
  induction h with
  | done l last p h => omega
  | step l last p R h hb hk hn ih =>
    have hnx := nx_gt s p h
    refine ih (nx_le s p h) ?_
    unfold nextL
    split
    · omega
    · split
      · rw [List.length_set]; omega
      · rw [List.length_append]; simp only [List.length_cons, List.length_nil]; omega
/-- The two Splits. -/
theorem split_eq (s : ByteArray) : ∃ l at_ e, l.length ≤ 2048 ∧ word_Split.f s = some (l, at_, e) ∧ Ev (fun k => computusref05_Split.f k s) (l.map cv, at_, e) := by
  unfold word_Split.f computusref05_Split.f
  by_cases h : s.size > 2048
  · rw [if_pos h]
    refine ⟨[], 0, 3, Nat.zero_le _, rfl, 0, fun k _ => ?_⟩
    simp only
    rw [if_pos (by omega)]
    rfl
  · rw [if_neg h]
    have hs : s.size ≤ 2048 := by omega
    have hI : Inv [] 0 0 := ⟨fun h => absurd rfl h, fun x hx => by cases hx⟩
    rcases run_or_bad s _ 0 rfl with hr | ⟨q, hq⟩
    · obtain ⟨R, hR⟩ := hr [] 0
      refine ⟨R, 0, 0, by have := run_len s hR (Nat.zero_le _) (Nat.zero_le _); omega, sp_run s hs hR _ (by omega) hI, ?_⟩
      have h1 := (ref_run s hs hR (Nat.zero_le _) (Nat.zero_le _)).1 (fun _ hh => by omega)
      refine Ev.congr (fun k => ?_) (ref_pass s hs hR _ h1)
      rw [if_neg (by omega)]
      rfl
    · refine ⟨[], q, 21, Nat.zero_le _, sp_bad s hs hq _ _ _ (by omega) hI, ?_⟩
      refine Ev.congr (fun k => ?_) (ref_bad s hs hq)
      rw [if_neg (by omega)]
      rfl
theorem taken_loop (x : List S34) (hx : x.length ≤ 1000000) : ∀ (d j : Nat), j + d = x.length → Ev (fun k => computuslaw05_taken.l0 k x ((x.take j).map cv) (j : Int)) (x.map cv) := by
  intro d
  induction d with
  | zero =>
    intro j hj
    refine ev_now fun k => ?_
    simp only [computuslaw05_taken.l0]
    rw [if_neg (by omega), List.take_of_length_le (by omega)]
  | succ d ih =>
    intro j hj
    refine Ev.step (fun k => ?_) (ih (j + 1) (by omega))
    simp only [computuslaw05_taken.l0]
    rw [if_pos (by omega), if_pos (by omega), if_pos (by rw [List.length_map, List.length_take]; omega), wr _ (by omega) (by omega)]
    have hjl : j < x.length := by omega
    have e : rd_T34 x (j : Int) = x[j] := by unfold rd_T34; rw [Int.toNat_natCast, List.getD_eq_getElem?_getD, List.getElem?_eq_getElem hjl]; rfl
    rw [e, List.take_succ_eq_append_getElem hjl, List.map_append]
    rfl
theorem taken_eq (x : List S34) (hx : x.length ≤ 1000000) : Ev (fun k => computuslaw05_taken.f k x) (x.map cv) := taken_loop x hx x.length 0 (by omega)
theorem parts_loop (x : List S47) (hx : x.length ≤ 1000000) : ∀ (d j : Nat), j + d = x.length → Ev (fun k => computusref05_Parts.l0 k x x (j : Int)) true := by
  intro d
  induction d with
  | zero =>
    intro j hj
    refine ev_now fun k => ?_
    simp only [computusref05_Parts.l0]
    rw [if_neg (by omega)]
  | succ d ih =>
    intro j hj
    refine Ev.step (fun k => ?_) (ih (j + 1) (by omega))
    simp only [computusref05_Parts.l0]
    rw [if_pos (by omega), if_pos (by omega), if_pos (by omega), if_neg (by simp), wr _ (by omega) (by omega)]
    rfl
theorem parts_eq (x : List S47) (hx : x.length ≤ 1000000) : Ev (fun k => computusref05_Parts.f k x x) true := by
  refine Ev.congr (fun k => ?_) (parts_loop x hx x.length 0 (by omega))
  unfold computusref05_Parts.f
  rw [if_pos rfl]
  rfl
theorem known_ok : computuslaw05_known.f 60 = some true := by decide +kernel
theorem known_ev : Ev (fun k => computuslaw05_known.f k) true := Ev.of computuslaw05_known.mono known_ok
end Go.Proofs.Ytlpbjpkjmagodaa.Lem
