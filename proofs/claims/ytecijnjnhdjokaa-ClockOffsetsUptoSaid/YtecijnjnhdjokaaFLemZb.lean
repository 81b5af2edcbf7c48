/- The two readings of an offset, side by side (not four digits): the tree. -/
import Derived.Test.YtecijnjnhdjokaaFLemZ
namespace Go.Proofs.Ytecijnjnhdjokaa.FNum
open Go.RowKit Go.Proofs.Ytecijnjnhdjokaa.PClockF Go.Proofs.Ytecijnjnhdjokaa.Utf Go.Proofs.YtecijnjnhdjokaaW.PrintWords Go.Proofs.YtecijnjnhdjokaaW.PrintLast Go.Proofs.YtecijnjnhdjokaaW.PrintMore
set_option linter.unusedVariables false
set_option linter.unusedSimpArgs false
theorem dsx (x : ByteArray) (L : List S45) (s d r : List Int) (hx : clock_groups.f x = grL (d ++ r) (L ++ [⟨0, 0⟩]) (strOfNums s)) (hd : Dig d) (h : d.length ≤ 6) : clock_groups.f x = grL r (L ++ [⟨val 0 d, d.length⟩]) (strOfNums s) := by
  have e := grL_ds d r L 0 0 (strOfNums s) hd (by decide) (by decide) (by omega)
  rw [Nat.zero_add] at e
  exact hx.trans e
theorem g_fail (x : ByteArray) (c : Int) (L : List S45) (sg : ByteArray) (hx : clock_groups.f x = some (L, sg, false)) : (clock_groups.f x).bind (K c) = some (0, 13) := by rw [hx]; rfl
theorem nxt (x : ByteArray) (c : Int) (L : List S45) (s : List Int) (b : Int) (t : List Int) (hx : clock_groups.f x = grL (b :: t) L (strOfNums s)) (hn : NonD (b :: t)) (hL : L.length < 100) (hs : s.length < 100) : ((b = 58 ∨ b = 46) ∧ clock_groups.f x = grL t (L ++ [⟨0, 0⟩]) (strOfNums (s ++ [b]))) ∨ ((b ≠ 58 ∧ b ≠ 46) ∧ (clock_groups.f x).bind (K c) = some (0, 13)) := by
  by_cases hb : b = 58 ∨ b = 46
  · exact .inl ⟨hb, hx.trans (grL_sign b t L s hb hL hs)⟩
  · exact .inr ⟨by omega, g_fail x c _ _ (hx.trans (grL_other b t L _ (hn b t rfl) (by omega) (by omega)))⟩
theorem mis1 : Mis [46] := by intro m; rw [tl]; simp
theorem mis2 : Mis [58, 46] := by intro m; rw [tl]; simp
theorem mis3 (b : Int) : Mis [58, 58, b] := by intro m; rw [tl]; simp
/-- What both answer. -/
def Same (neg : Bool) (x : ByteArray) : Prop := ∃ r : Int × Int, (clock_groups.f x).bind (K (if neg = true then 45 else 43)) = some r ∧ Ev (fun k => elseB k neg x false) r
theorem fin_some (c n : Int) (m : Bool) : ∃ r, fin c n m = some r := by
  unfold fin
  repeat' split
  all_goals exact ⟨_, rfl⟩
theorem stage3 (neg : Bool) (x : ByteArray) (v1 v2 c1 : Int) (t : List Int) (hB : Byt t) (hz : t.length ≤ 1500000) (h1 : 0 ≤ v1 ∧ v1 ≤ 99) (h2 : 0 ≤ v2 ∧ v2 ≤ 99) (hc : c1 = 1 ∨ c1 = 2) (hx : clock_groups.f x = grL t [⟨v1, c1⟩, ⟨v2, 2⟩, ⟨0, 0⟩] (strOfNums [58, 58])) (href : ∀ r, Ev (fun k => e3 k neg v1 v2 (strOfNums t) false) r → Ev (fun k => elseB k neg x false) r) : Same neg x := by
  obtain ⟨d, r, rfl, hd, hn⟩ := runs t
  have hzz : (d ++ r).length ≤ 2000000 := by omega
  by_cases h6 : 6 < d.length
  · exact ⟨_, g_fail x _ _ _ (hx.trans (grL_six d r [⟨v1, c1⟩, ⟨v2, 2⟩] _ hd h6)), href _ (q3_bad neg _ _ d r hB hzz hd hn (.inl (by omega)))⟩
  have hx1 := dsx x [⟨v1, c1⟩, ⟨v2, 2⟩] _ d r hx hd (by omega)
  cases r with
  | nil =>
    have hx2 : clock_groups.f x = some ([⟨v1, c1⟩, ⟨v2, 2⟩, ⟨val 0 d, d.length⟩], strOfNums [58, 58], true) := hx1
    have hk : ∀ c, (clock_groups.f x).bind (K c) = coEnd c [⟨v1, c1⟩, ⟨v2, 2⟩, ⟨val 0 d, d.length⟩] := by
      intro c
      rw [hx2, Option.bind_some, k_mid c _ _ (by simp) (by rw [tl]; simp), m_end c [⟨v1, c1⟩, ⟨v2, 2⟩, ⟨val 0 d, d.length⟩] (strOfNums [58, 58]) (.inr (.inr (by rw [tl]; rfl))) (by simp) hc]
    by_cases hl : d.length = 2
    · have hv := val99 d hd (by omega)
      obtain ⟨q, hq⟩ := fin_some (if neg = true then 45 else 43) (v1 * 3600 + v2 * 60 + val 0 d) (decide (59 < v2) || decide (59 < val 0 d))
      refine ⟨q, ?_, href _ ?_⟩
      · rw [hk, show ((d.length : Int)) = 2 by omega, end3 _ _ _ _ _ (by omega) (by omega) (by omega), hq]
      · rw [List.append_nil]
        exact q3_end neg v1 v2 d (by simpa using hB) hd hl h1 h2 q hq
    · refine ⟨_, ?_, href _ (q3_bad neg _ _ d [] hB hzz hd hn (.inl hl))⟩
      rw [hk, end3_bad _ _ _ _ _ _ (by omega) (by omega) (by omega)]
  | cons b t =>
    refine ⟨(0, 13), ?_, href _ (q3_bad neg _ _ d (b :: t) hB hzz hd hn (.inr (by simp)))⟩
    rcases nxt x _ _ _ b t hx1 hn (by simp) (by simp) with ⟨_, hx2⟩ | ⟨_, g⟩
    · exact d_mis x _ t _ _ hx2 (grows_zero _) (by simp at hz ⊢; omega) (by simp at hz ⊢; omega) (mis3 b)
    · exact g
theorem stage2 (neg : Bool) (x : ByteArray) (v1 c1 : Int) (t : List Int) (hB : Byt t) (hz : t.length ≤ 1500000) (h1 : 0 ≤ v1 ∧ v1 ≤ 99) (hc : c1 = 1 ∨ c1 = 2) (hx : clock_groups.f x = grL t [⟨v1, c1⟩, ⟨0, 0⟩] (strOfNums [58])) (href : ∀ r, Ev (fun k => e2 k neg v1 (strOfNums t) false) r → Ev (fun k => elseB k neg x false) r) : Same neg x := by
  obtain ⟨d, r, rfl, hd, hn⟩ := runs t
  have hzz : (d ++ r).length ≤ 2000000 := by omega
  by_cases h6 : 6 < d.length
  · exact ⟨_, g_fail x _ _ _ (hx.trans (grL_six d r [⟨v1, c1⟩] _ hd h6)), href _ (q2_bad neg _ d r hB hzz hd hn (.inl (by omega)))⟩
  have hx1 := dsx x [⟨v1, c1⟩] _ d r hx hd (by omega)
  cases r with
  | nil =>
    have hx2 : clock_groups.f x = some ([⟨v1, c1⟩, ⟨val 0 d, d.length⟩], strOfNums [58], true) := hx1
    have hk : ∀ c, (clock_groups.f x).bind (K c) = coEnd c [⟨v1, c1⟩, ⟨val 0 d, d.length⟩] := by
      intro c
      rw [hx2, Option.bind_some, k_mid c _ _ (by simp) (by rw [tl]; simp), m_end c [⟨v1, c1⟩, ⟨val 0 d, d.length⟩] (strOfNums [58]) (.inr (.inl (by rw [tl]; rfl))) (by simp) hc]
    by_cases hl : d.length = 2
    · have hv := val99 d hd (by omega)
      obtain ⟨q, hq⟩ := fin_some (if neg = true then 45 else 43) (v1 * 3600 + val 0 d * 60) (decide (59 < val 0 d))
      refine ⟨q, ?_, href _ ?_⟩
      · rw [hk, show ((d.length : Int)) = 2 by omega, end2 _ _ _ _ (by omega) (by omega), hq]
      · rw [List.append_nil]
        exact q2_end neg v1 d (by simpa using hB) hd hl h1 q hq
    · refine ⟨_, ?_, href _ (q2_bad neg _ d [] hB hzz hd hn (.inl hl))⟩
      rw [hk, end2_bad _ _ _ _ _ (by omega) (by omega) [] (by simp)]
  | cons b t =>
    have hBt : Byt t := fun y hy => hB y (by simp [hy])
    have hzt : t.length ≤ 1500000 := by simp at hz; omega
    rcases nxt x (if neg = true then 45 else 43) _ _ b t hx1 hn (by simp) (by simp) with ⟨hb, hx2⟩ | ⟨hb, g⟩
    · rcases hb with rfl | rfl
      · by_cases hl : d.length = 2
        · rw [hl] at hx2
          exact stage3 neg x v1 (val 0 d) c1 t hBt hzt h1 (val99 d hd (by omega)) hc hx2 (fun r hr => href r (q2_ok neg _ d t hB hzz hd hl r hr))
        · exact ⟨_, d_two x _ t ⟨v1, c1⟩ ⟨val 0 d, d.length⟩ hx2 hzt (by show 0 ≤ v1 ∧ v1 ≤ 999999; omega) (by show (d.length : Int) ≠ 2; omega), href _ (q2_bad neg _ d _ hB hzz hd hn (.inl hl))⟩
      · exact ⟨_, d_mis x _ t _ _ hx2 (grows_zero _) (by simp at hz ⊢; omega) (by simp at hz ⊢; omega) mis2, href _ (q2_bad neg _ d _ hB hzz hd hn (.inr ⟨by simp, fun u q => by injection q with q1 _; omega⟩))⟩
    · exact ⟨_, g, href _ (q2_bad neg _ d _ hB hzz hd hn (.inr ⟨by simp, fun u q => by injection q with q1 _; omega⟩))⟩
/-- Not four digits alone. -/
theorem both_else (neg : Bool) (t : List Int) (hB : Byt t) (hz : t.length ≤ 1500000) (h4 : ∀ d, t = d → Dig d → d.length ≠ 4) : Same neg (strOfNums t) := by
  have hx : clock_groups.f (strOfNums t) = grL t [⟨0, 0⟩] (strOfNums []) := groups_eqB t hB
  obtain ⟨d, r, rfl, hd, hn⟩ := runs t
  have hzz : (d ++ r).length ≤ 2000000 := by omega
  by_cases h6 : 6 < d.length
  · exact ⟨_, g_fail _ _ _ _ (hx.trans (grL_six d r [] _ hd h6)), q1_bad neg d r hB hzz hd hn (.inr (.inl (by omega)))⟩
  have hx1 := dsx _ [] _ d r hx hd (by omega)
  rw [List.nil_append] at hx1
  cases r with
  | nil =>
    have hx2 : clock_groups.f (strOfNums (d ++ [])) = some ([⟨val 0 d, d.length⟩], strOfNums [], true) := hx1
    have hn4 := h4 d (List.append_nil d) hd
    have hk : ∀ c, (clock_groups.f (strOfNums (d ++ []))).bind (K c) = coMid c [⟨val 0 d, d.length⟩] (strOfNums []) := by
      intro c
      rw [hx2, Option.bind_some, k_mid c _ _ (by simp) (by rintro ⟨_, q⟩; have q2 : (d.length : Int) = 4 := q; omega)]
    by_cases hc : d.length = 1 ∨ d.length = 2
    · have hv := val99 d hd (by omega)
      obtain ⟨q, hq⟩ := fin_some (if neg = true then 45 else 43) (val 0 d * 3600) false
      refine ⟨q, ?_, ?_⟩
      · rw [hk, m_end _ [⟨val 0 d, d.length⟩] (strOfNums []) (.inl (by rw [tl]; rfl)) (by simp) (by show (d.length : Int) = 1 ∨ (d.length : Int) = 2; omega), end1 _ _ _ (by omega), hq]
      · rw [List.append_nil]
        exact q1_end neg d (by simpa using hB) hd hc q hq
    · refine ⟨(0, 13), ?_, ?_⟩
      · rw [hk, m_one _ [⟨val 0 d, d.length⟩] _ (by simp) (by show ¬ ((d.length : Int) = 1 ∨ (d.length : Int) = 2); omega)]
      · by_cases h0 : d.length = 0
        · exact q1_bad neg d [] hB hzz hd hn (.inl h0)
        · exact q1_bad neg d [] hB hzz hd hn (.inr (.inl (by omega)))
  | cons b t =>
    have hBt : Byt t := fun y hy => hB y (by simp [hy])
    have hzt : t.length ≤ 1500000 := by simp at hz; omega
    rcases nxt _ (if neg = true then 45 else 43) _ _ b t hx1 hn (by simp) (by simp) with ⟨hb, hx2⟩ | ⟨hb, g⟩
    · rcases hb with rfl | rfl
      · by_cases hc : d.length = 1 ∨ d.length = 2
        · exact stage2 neg _ (val 0 d) d.length t hBt hzt (val99 d hd (by omega)) (by omega) hx2 (fun r hr => q1_ok neg d t hB hzz hd hc r hr)
        · refine ⟨_, d_one _ _ t ⟨val 0 d, d.length⟩ hx2 (by omega) (by show ¬ ((d.length : Int) = 1 ∨ (d.length : Int) = 2); omega), ?_⟩
          by_cases h0 : d.length = 0
          · exact q1_bad neg d _ hB hzz hd hn (.inl h0)
          · exact q1_bad neg d _ hB hzz hd hn (.inr (.inl (by omega)))
      · exact ⟨_, d_mis _ _ t _ _ hx2 (grows_zero _) (by simp at hz ⊢; omega) (by simp at hz ⊢; omega) mis1, q1_bad neg d _ hB hzz hd hn (.inr (.inr ⟨by simp, fun u q => by injection q with q1 _; omega⟩))⟩
    · exact ⟨_, g, q1_bad neg d _ hB hzz hd hn (.inr (.inr ⟨by simp, fun u q => by injection q with q1 _; omega⟩))⟩
end Go.Proofs.Ytecijnjnhdjokaa.FNum
