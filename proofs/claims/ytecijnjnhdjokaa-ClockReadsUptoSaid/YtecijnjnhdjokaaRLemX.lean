/- Any text is read alike. -/
import Derived.Test.YtecijnjnhdjokaaRLemV
namespace Go.Proofs.Ytecijnjnhdjokaa.RNum
open Go.RowKit Go.Proofs.Ytecijnjnhdjokaa.PClockR Go.Proofs.Ytecijnjnhdjokaa.Utf Go.Proofs.YtecijnjnhdjokaaW.PrintWords Go.Proofs.YtecijnjnhdjokaaW.PrintLast Go.Proofs.YtecijnjnhdjokaaW.PrintMore
set_option linter.unusedVariables false
set_option linter.unusedSimpArgs false
theorem R1any (d r : List Int) (hB : Byt (d ++ r)) (hz : (d ++ r).length ≤ 2000000) (hd : Dig d) (hn : NonD r) (h : d.length = 0 ∨ 2 < d.length ∨ ∀ t, r ≠ 58 :: t) : Ev (fun k => computusref03_Read.f k (strOfNums (d ++ r))) (0, 13) := by
  by_cases hl : d.length ≤ 2
  · exact r1_bad d r hB hz hd hl (.inr hn) (h.imp id (fun g => g.resolve_left (by omega)))
  · obtain ⟨e1, b, t, e, g1, g2, g3⟩ := cut d r 2 hd (by omega)
    rw [e] at hB hz ⊢
    exact r1_bad e1 (b :: t) hB hz g2 (by omega) (.inl g1) (.inr (fun u q => by injection q with q1 _; omega))
theorem R2any (h0 : Int) (d r : List Int) (hB : Byt (d ++ r)) (hz : (d ++ r).length ≤ 2000000) (hd : Dig d) (hn : NonD r) (h : d.length ≠ 2 ∨ (r ≠ [] ∧ ∀ t, r ≠ 58 :: t)) : Ev (fun k => st2 k h0 (strOfNums (d ++ r)) false) (0, 13) := by
  by_cases hl : d.length ≤ 2
  · exact r2_bad h0 d r hB hz hd hl (.inr hn) (h.imp (fun g => by omega) id)
  · obtain ⟨e1, b, t, e, g1, g2, g3⟩ := cut d r 2 hd (by omega)
    rw [e] at hB hz ⊢
    exact r2_bad h0 e1 (b :: t) hB hz g2 (by omega) (.inl g1) (.inr ⟨by simp, fun u q => by injection q with q1 _; omega⟩)
theorem R3any (h0 m : Int) (d r : List Int) (hB : Byt (d ++ r)) (hz : (d ++ r).length ≤ 2000000) (hd : Dig d) (hn : NonD r) (h : d.length ≠ 2 ∨ (r ≠ [] ∧ ∀ t, r ≠ 46 :: t)) : Ev (fun k => rdSec k h0 m (true, strOfNums (d ++ r), false)) (0, 13) := by
  by_cases hl : d.length ≤ 2
  · exact r3_bad h0 m d r hB hz hd hl (.inr hn) (h.imp (fun g => by omega) id)
  · obtain ⟨e1, b, t, e, g1, g2, g3⟩ := cut d r 2 hd (by omega)
    rw [e] at hB hz ⊢
    exact r3_bad h0 m e1 (b :: t) hB hz g2 (by omega) (.inl g1) (.inr ⟨by simp, fun u q => by injection q with q1 _; omega⟩)
theorem R4any (h0 m s : Int) (d r : List Int) (hB : Byt (d ++ r)) (hz : (d ++ r).length ≤ 2000000) (hd : Dig d) (hn : NonD r) (h : d.length = 0 ∨ 6 < d.length ∨ r ≠ []) : Ev (fun k => rdFrac k h0 m s (true, strOfNums (d ++ r), false)) (0, 13) := by
  by_cases hl : d.length ≤ 6
  · exact r4_bad h0 m s d r hB hz hd hl (.inr hn) (h.imp id (fun g => g.resolve_left (by omega)))
  · obtain ⟨e1, b, t, e, g1, g2, g3⟩ := cut d r 6 hd (by omega)
    rw [e] at hB hz ⊢
    exact r4_bad h0 m s e1 (b :: t) hB hz g2 (by omega) (.inl g1) (.inr (by simp))
theorem dsx (x : ByteArray) (L : List S45) (s d r : List Int) (hx : clock_groups.f x = grL (d ++ r) (L ++ [⟨0, 0⟩]) (strOfNums s)) (hd : Dig d) (h : d.length ≤ 6) : clock_groups.f x = grL r (L ++ [⟨val 0 d, d.length⟩]) (strOfNums s) := by
  have e := grL_ds d r L 0 0 (strOfNums s) hd (by decide) (by decide) (by omega)
  rw [Nat.zero_add] at e
  exact hx.trans e
theorem nxt (x : ByteArray) (L : List S45) (s : List Int) (b : Int) (t : List Int) (hx : clock_groups.f x = grL (b :: t) L (strOfNums s)) (hn : NonD (b :: t)) (hL : L.length < 100) (hs : s.length < 100) : ((b = 58 ∨ b = 46) ∧ clock_groups.f x = grL t (L ++ [⟨0, 0⟩]) (strOfNums (s ++ [b]))) ∨ ((b ≠ 58 ∧ b ≠ 46) ∧ Ev (fun k => clock_Read.f k x) (0, 13)) := by
  by_cases hb : b = 58 ∨ b = 46
  · exact .inl ⟨hb, hx.trans (grL_sign b t L s hb hL hs)⟩
  · exact .inr ⟨by omega, c_fail x _ _ (hx.trans (grL_other b t L _ (hn b t rfl) (by omega) (by omega)))⟩
theorem mis1 : Mis [46] := by intro m; rw [tl]; simp
theorem mis2 : Mis [58, 46] := by intro m; rw [tl]; simp
theorem mis3 : Mis [58, 58, 58] := by intro m; rw [tl]; simp
theorem mis4 (b : Int) : Mis [58, 58, 46, b] := by intro m; rw [tl]; simp
theorem s0 : ¬ ((strOfNums []).toList = ([58] : List UInt8) ∨ (strOfNums []).toList = ([58, 58] : List UInt8) ∨ (strOfNums []).toList = ([58, 58, 46] : List UInt8)) := by rw [tl]; simp
theorem s1 : (strOfNums [58]).toList = ([58] : List UInt8) := by decide +kernel
/-- What both answer. -/
def Same (x : ByteArray) : Prop := ∃ r : Int × Int, Ev (fun k => clock_Read.f k x) r ∧ Ev (fun k => computusref03_Read.f k x) r ∧ (r.2 = 0 → 0 ≤ r.1 ∧ r.1 ≤ 86400000000)
theorem same_bad (x : ByteArray) (a : Ev (fun k => clock_Read.f k x) (0, 13)) (b : Ev (fun k => computusref03_Read.f k x) (0, 13)) : Same x := ⟨(0, 13), a, b, fun h => absurd h (by decide)⟩
theorem up_zero : ∀ z : Nat, up 0 z = 0 := by
  intro z
  induction z with
  | zero => rfl
  | succ z ih => rw [up, Int.zero_mul, ih]
/-- The fraction. -/
theorem stage4 (x : ByteArray) (v1 v2 v3 c1 : Int) (t : List Int) (hB : Byt t) (hz : t.length ≤ 1100000) (hc : c1 = 1 ∨ c1 = 2) (hx : clock_groups.f x = grL t [⟨v1, c1⟩, ⟨v2, 2⟩, ⟨v3, 2⟩, ⟨0, 0⟩] (strOfNums [58, 58, 46])) (href : ∀ r, Ev (fun k => rdFrac k v1 v2 v3 (true, strOfNums t, false)) r → Ev (fun k => computusref03_Read.f k x) r) : Same x := by
  obtain ⟨d, r, rfl, hd, hn⟩ := runs t
  have hzz : (d ++ r).length ≤ 2000000 := by omega
  by_cases h6 : 6 < d.length
  · exact same_bad x (c_fail x _ _ (hx.trans (grL_six d r [⟨v1, c1⟩, ⟨v2, 2⟩, ⟨v3, 2⟩] _ hd h6))) (href _ (R4any _ _ _ d r hB hzz hd hn (.inr (.inl h6))))
  have hx1 := dsx x [⟨v1, c1⟩, ⟨v2, 2⟩, ⟨v3, 2⟩] _ d r hx hd (by omega)
  cases r with
  | cons b t =>
    refine same_bad x ?_ (href _ (R4any _ _ _ d (b :: t) hB hzz hd hn (.inr (.inr (by simp)))))
    rcases nxt x _ _ b t hx1 hn (by simp) (by simp) with ⟨_, hx2⟩ | ⟨_, g⟩
    · exact d_mis x t _ _ hx2 (grows_zero _) (by simp at hz ⊢; omega) (by simp at hz ⊢; omega) (mis4 b)
    · exact g
  | nil =>
    have hx2 : clock_groups.f x = some ([⟨v1, c1⟩, ⟨v2, 2⟩, ⟨v3, 2⟩, ⟨val 0 d, d.length⟩], strOfNums [58, 58, 46], true) := hx1
    have hu := us_ds d [] hd (by omega)
    by_cases h0 : d.length = 0
    · refine same_bad x ?_ (href _ (R4any _ _ _ d [] hB hzz hd hn (.inl h0)))
      exact c_mid x _ _ hx2 (.inr (.inr t5)) (by simp) hc rfl _ (j0_3 _ _ t5 rfl _ (j1_bad _ _ _ _ _ (by rintro ⟨_, q⟩; apply q; show (d.length : Int) = 0; omega)))
    · obtain ⟨q, m1, m2, m3⟩ := make_eq v1 v2 v3 (up (val 0 d) (6 - d.length))
      refine ⟨q, ?_, href _ ?_, m3⟩
      · refine c_mid x _ _ hx2 (.inr (.inr t5)) (by simp) hc rfl _ (j0_3 _ _ t5 rfl _ (j1_good _ _ _ _ (by show (d.length : Int) ≠ 0; omega) _ ?_))
        exact fillG (6 - d.length) _ v1 v2 v3 2 (val 0 d) d.length q rfl rfl (by simp) (by omega) hu.2.1 hu.2.2 (by omega) m1
      · rw [List.append_nil]
        exact r4_end _ _ _ d (by simpa using hB) hd (by omega) (by omega) q m2
/-- The seconds. -/
theorem stage3 (x : ByteArray) (v1 v2 c1 : Int) (t : List Int) (hB : Byt t) (hz : t.length ≤ 1100000) (hc : c1 = 1 ∨ c1 = 2) (hx : clock_groups.f x = grL t [⟨v1, c1⟩, ⟨v2, 2⟩, ⟨0, 0⟩] (strOfNums [58, 58])) (href : ∀ r, Ev (fun k => rdSec k v1 v2 (true, strOfNums t, false)) r → Ev (fun k => computusref03_Read.f k x) r) : Same x := by
  obtain ⟨d, r, rfl, hd, hn⟩ := runs t
  have hzz : (d ++ r).length ≤ 2000000 := by omega
  by_cases h6 : 6 < d.length
  · exact same_bad x (c_fail x _ _ (hx.trans (grL_six d r [⟨v1, c1⟩, ⟨v2, 2⟩] _ hd h6))) (href _ (R3any _ _ d r hB hzz hd hn (.inl (by omega))))
  have hx1 := dsx x [⟨v1, c1⟩, ⟨v2, 2⟩] _ d r hx hd (by omega)
  cases r with
  | nil =>
    have hx2 : clock_groups.f x = some ([⟨v1, c1⟩, ⟨v2, 2⟩, ⟨val 0 d, d.length⟩], strOfNums [58, 58], true) := hx1
    by_cases h2 : d.length = 2
    · obtain ⟨q, m1, m2, m3⟩ := make_eq v1 v2 (val 0 d) 0
      refine ⟨q, ?_, href _ ?_, m3⟩
      · refine c_mid x _ _ hx2 (.inr (.inl t2)) (by simp) hc rfl _ (j0_2 _ _ t2 rfl _ ?_)
        have e2 : (rd_T45 [⟨v1, c1⟩, ⟨v2, 2⟩, ⟨val 0 d, d.length⟩] 2).f1 = 2 := by show (d.length : Int) = 2; omega
        rw [e2]
        exact j1_good _ _ _ _ (by decide) _ (fillG 0 _ v1 v2 (val 0 d) 2 0 6 q rfl rfl (by simp) (by decide) (by decide) (by decide) (by decide) m1)
      · rw [List.append_nil]
        exact r3_end _ _ d (by simpa using hB) hd h2 q m2
    · refine same_bad x ?_ (href _ (R3any _ _ d [] hB hzz hd hn (.inl h2)))
      exact c_mid x _ _ hx2 (.inr (.inl t2)) (by simp) hc rfl _ (j0_2 _ _ t2 rfl _ (j1_bad _ _ _ _ _ (by rintro ⟨q, _⟩; apply h2; have q2 : (d.length : Int) = 2 := q; omega)))
  | cons b t =>
    have hBt : Byt t := fun y hy => hB y (by simp [hy])
    have hzt : t.length ≤ 1100000 := by simp at hz; omega
    rcases nxt x _ _ b t hx1 hn (by simp) (by simp) with ⟨hb, hx2⟩ | ⟨hb, g⟩
    · rcases hb with rfl | rfl
      · refine same_bad x (d_mis x t _ _ hx2 (grows_zero _) (by simp at hz ⊢; omega) (by simp at hz ⊢; omega) mis3) (href _ (R3any _ _ d _ hB hzz hd hn (.inr ⟨by simp, fun u q => by injection q with q1 _; omega⟩)))
      · by_cases h2 : d.length = 2
        · rw [h2] at hx2
          exact stage4 x v1 v2 (val 0 d) c1 t hBt hzt hc hx2 (fun r hr => href r (r3_ok _ _ d t hB hzz hd h2 r hr))
        · refine same_bad x ?_ (href _ (R3any _ _ d _ hB hzz hd hn (.inl h2)))
          exact d_three x t ⟨v1, c1⟩ ⟨v2, 2⟩ ⟨val 0 d, d.length⟩ hx2 (by omega) (by show ¬ (d.length : Int) = 2; omega) hc rfl
    · exact same_bad x g (href _ (R3any _ _ d _ hB hzz hd hn (.inr ⟨by simp, fun u q => by injection q with q1 _; omega⟩)))
/-- The minutes. -/
theorem stage2 (x : ByteArray) (v1 c1 : Int) (t : List Int) (hB : Byt t) (hz : t.length ≤ 1100000) (hc : c1 = 1 ∨ c1 = 2) (hx : clock_groups.f x = grL t [⟨v1, c1⟩, ⟨0, 0⟩] (strOfNums [58])) (href : ∀ r, Ev (fun k => st2 k v1 (strOfNums t) false) r → Ev (fun k => computusref03_Read.f k x) r) : Same x := by
  obtain ⟨d, r, rfl, hd, hn⟩ := runs t
  have hzz : (d ++ r).length ≤ 2000000 := by omega
  by_cases h6 : 6 < d.length
  · exact same_bad x (c_fail x _ _ (hx.trans (grL_six d r [⟨v1, c1⟩] _ hd h6))) (href _ (R2any _ d r hB hzz hd hn (.inl (by omega))))
  have hx1 := dsx x [⟨v1, c1⟩] _ d r hx hd (by omega)
  cases r with
  | nil =>
    have hx2 : clock_groups.f x = some ([⟨v1, c1⟩, ⟨val 0 d, d.length⟩], strOfNums [58], true) := hx1
    by_cases h2 : d.length = 2
    · obtain ⟨q, m1, m2, m3⟩ := make_eq v1 (val 0 d) 0 0
      refine ⟨q, ?_, href _ ?_, m3⟩
      · refine c_mid x _ _ hx2 (.inl s1) (by simp) hc (by show (d.length : Int) = 2; omega) _ (j0_1 _ _ s1 rfl _ ?_)
        exact j1_good _ _ _ _ (by decide) _ (fillG 0 _ v1 (val 0 d) 0 2 0 6 q rfl rfl (by simp) (by decide) (by decide) (by decide) (by decide) m1)
      · rw [List.append_nil]
        exact r2_end _ d (by simpa using hB) hd h2 q m2
    · exact same_bad x (c_two x _ _ true hx2 (by simp) (by show ¬ (d.length : Int) = 2; omega)) (href _ (R2any _ d [] hB hzz hd hn (.inl h2)))
  | cons b t =>
    have hBt : Byt t := fun y hy => hB y (by simp [hy])
    have hzt : t.length ≤ 1100000 := by simp at hz; omega
    rcases nxt x _ _ b t hx1 hn (by simp) (by simp) with ⟨hb, hx2⟩ | ⟨hb, g⟩
    · rcases hb with rfl | rfl
      · by_cases h2 : d.length = 2
        · rw [h2] at hx2
          exact stage3 x v1 (val 0 d) c1 t hBt hzt hc hx2 (fun r hr => href r (r2_ok _ d t hB hzz hd h2 r hr))
        · refine same_bad x ?_ (href _ (R2any _ d _ hB hzz hd hn (.inl h2)))
          exact d_two x t ⟨v1, c1⟩ ⟨val 0 d, d.length⟩ _ hx2 (by omega) (by simp) (by show ¬ (d.length : Int) = 2; omega)
      · exact same_bad x (d_mis x t _ _ hx2 (grows_zero _) (by simp at hz ⊢; omega) (by simp at hz ⊢; omega) mis2) (href _ (R2any _ d _ hB hzz hd hn (.inr ⟨by simp, fun u q => by injection q with q1 _; omega⟩)))
    · exact same_bad x g (href _ (R2any _ d _ hB hzz hd hn (.inr ⟨by simp, fun u q => by injection q with q1 _; omega⟩)))
theorem both (x : ByteArray) (hz : x.size ≤ 1048576) : Same x := by
  obtain ⟨l, hB, rfl⟩ := as_nums x
  rw [strOfNums_size] at hz
  have hx : clock_groups.f (strOfNums l) = grL l [⟨0, 0⟩] (strOfNums []) := groups_eqB l hB
  obtain ⟨d, r, rfl, hd, hn⟩ := runs l
  have hzz : (d ++ r).length ≤ 2000000 := by omega
  by_cases h6 : 6 < d.length
  · exact same_bad _ (c_fail _ _ _ (hx.trans (grL_six d r [] _ hd h6))) (R1any d r hB hzz hd hn (.inr (.inl (by omega))))
  have hx1 := dsx _ [] _ d r hx hd (by omega)
  rw [List.nil_append] at hx1
  cases r with
  | nil => exact same_bad _ (c_sign _ _ _ true hx1 s0) (R1any d [] hB hzz hd hn (.inr (.inr (by simp))))
  | cons b t =>
    have hBt : Byt t := fun y hy => hB y (by simp [hy])
    have hzt : t.length ≤ 1100000 := by simp at hz; omega
    rcases nxt _ _ _ b t hx1 hn (by simp) (by simp) with ⟨hb, hx2⟩ | ⟨hb, g⟩
    · rcases hb with rfl | rfl
      · by_cases hc : d.length = 1 ∨ d.length = 2
        · exact stage2 _ (val 0 d) d.length t hBt hzt (by omega) hx2 (fun r hr => r1_ok d t hB hzz hd (by omega) (by omega) r hr)
        · exact same_bad _ (d_one _ t ⟨val 0 d, d.length⟩ _ hx2 (by omega) (by simp) (by show ¬ ((d.length : Int) = 1 ∨ (d.length : Int) = 2); omega)) (R1any d _ hB hzz hd hn (by omega))
      · exact same_bad _ (d_mis _ t _ _ hx2 (grows_zero _) (by simp at hz ⊢; omega) (by simp at hz ⊢; omega) mis1) (R1any d _ hB hzz hd hn (.inr (.inr (fun u q => by injection q with q1 _; omega))))
    · exact same_bad _ g (R1any d _ hB hzz hd hn (.inr (.inr (fun u q => by injection q with q1 _; omega))))
end Go.Proofs.Ytecijnjnhdjokaa.RNum
