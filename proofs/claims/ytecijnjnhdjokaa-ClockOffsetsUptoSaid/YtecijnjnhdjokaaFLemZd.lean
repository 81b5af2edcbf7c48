/- An offset's text is read again as it was; the law's own fixed calls. -/
import Derived.Test.YtecijnjnhdjokaaFLemZc
import Derived.Test.YtecijnjnhdjokaaFLemO
import Derived.Test.YtecijnjnhdjokaaPClockFx9
namespace Go.Proofs.Ytecijnjnhdjokaa.FNum
open Go.RowKit Go.Proofs.Ytecijnjnhdjokaa.PClockF Go.Proofs.Ytecijnjnhdjokaa.Utf Go.Proofs.YtecijnjnhdjokaaW.PrintWords Go.Proofs.YtecijnjnhdjokaaW.PrintLast Go.Proofs.YtecijnjnhdjokaaW.PrintMore
set_option linter.unusedVariables false
set_option linter.unusedSimpArgs false
theorem two2_dig (n : Int) (h : 0 ≤ n ∧ n < 100) : Dig (two2 n) := by
  intro x hx
  simp only [two2, List.mem_cons, List.not_mem_nil, or_false] at hx
  rcases hx with rfl | rfl <;> omega
theorem two2_val (n : Int) (h : 0 ≤ n ∧ n < 100) : val 0 (two2 n) = n := by
  simp only [two2, val]
  omega
theorem two2_len (n : Int) : (two2 n).length = 2 := rfl
theorem dig_byt (l : List Int) (h : Dig l) : Byt l := fun x hx => by have := h x hx; omega
theorem byt_app (a b : List Int) (h : Byt a) (g : Byt b) : Byt (a ++ b) := fun x hx => (List.mem_append.1 hx).elim (h x) (g x)
theorem byt_58 : Byt [58] := fun x hx => by simp at hx; omega
theorem back1 (c h : Int) (hc : c = 43 ∨ c = 45) (hh : 0 ≤ h ∧ h < 100) : clock_ReadOffset.f (strOfNums (c :: two2 h)) = fin c (h * 3600) false := by
  have hB : Byt (two2 h) := dig_byt _ (two2_dig h hh)
  have hx : clock_groups.f (strOfNums (two2 h)) = grL (two2 h ++ []) ([] ++ [⟨0, 0⟩]) (strOfNums []) := groups_eqB _ hB
  have hx1 := dsx _ [] _ (two2 h) [] hx (two2_dig h hh) (by simp [two2])
  rw [two2_val h hh] at hx1
  have hx2 : clock_groups.f (strOfNums (two2 h)) = some ([⟨h, 2⟩], strOfNums [], true) := hx1
  rw [co_eq c _ (by omega) hc, hx2, Option.bind_some, k_mid c _ _ (by simp) (by rintro ⟨_, q⟩; have q2 : (2 : Int) = 4 := q; omega)]
  rw [m_end c [⟨h, 2⟩] (strOfNums []) (.inl (by rw [tl]; rfl)) (by simp) (.inr rfl), end1 _ _ _ (by omega)]
theorem back2 (c h m : Int) (hc : c = 43 ∨ c = 45) (hh : 0 ≤ h ∧ h < 100) (hm : 0 ≤ m ∧ m < 100) : clock_ReadOffset.f (strOfNums (c :: two2 h ++ [58] ++ two2 m)) = fin c (h * 3600 + m * 60) (decide (59 < m)) := by
  have hd1 := two2_dig h hh
  have hd2 := two2_dig m hm
  have hB : Byt (two2 h ++ 58 :: (two2 m ++ [])) := byt_app _ (58 :: (two2 m ++ [])) (dig_byt _ hd1) (byt_app [58] (two2 m ++ []) byt_58 (byt_app _ [] (dig_byt _ hd2) (fun x hx => by cases hx)))
  have hx : clock_groups.f (strOfNums (two2 h ++ 58 :: (two2 m ++ []))) = grL (two2 h ++ 58 :: (two2 m ++ [])) ([] ++ [⟨0, 0⟩]) (strOfNums []) := groups_eqB _ hB
  have hx1 := dsx _ [] _ (two2 h) _ hx hd1 (by simp [two2])
  rw [two2_val h hh] at hx1
  have hx2 := hx1.trans (grL_sign 58 (two2 m ++ []) _ _ (.inl rfl) (by simp) (by simp))
  have hx3 := dsx _ [⟨h, 2⟩] _ (two2 m) [] hx2 hd2 (by simp [two2])
  rw [two2_val m hm] at hx3
  have hx4 : clock_groups.f (strOfNums (two2 h ++ 58 :: (two2 m ++ []))) = some ([⟨h, 2⟩, ⟨m, 2⟩], strOfNums [58], true) := hx3
  have e : (c :: two2 h ++ [58] ++ two2 m) = c :: (two2 h ++ 58 :: (two2 m ++ [])) := rfl
  rw [e, co_eq c _ (by omega) hc, hx4, Option.bind_some, k_mid c _ _ (by simp) (by rintro ⟨q, _⟩; rw [tl] at q; simp at q)]
  rw [m_end c [⟨h, 2⟩, ⟨m, 2⟩] (strOfNums [58]) (.inr (.inl (by rw [tl]; rfl))) (by simp) (.inr rfl), end2 _ _ _ _ (by omega) (by omega)]
theorem back3 (c h m s : Int) (hc : c = 43 ∨ c = 45) (hh : 0 ≤ h ∧ h < 100) (hm : 0 ≤ m ∧ m < 100) (hs : 0 ≤ s ∧ s < 100) : clock_ReadOffset.f (strOfNums (c :: two2 h ++ [58] ++ two2 m ++ [58] ++ two2 s)) = fin c (h * 3600 + m * 60 + s) (decide (59 < m) || decide (59 < s)) := by
  have hd1 := two2_dig h hh
  have hd2 := two2_dig m hm
  have hd3 := two2_dig s hs
  have hB : Byt (two2 h ++ 58 :: (two2 m ++ 58 :: (two2 s ++ []))) := byt_app _ (58 :: (two2 m ++ 58 :: (two2 s ++ []))) (dig_byt _ hd1) (byt_app [58] (two2 m ++ 58 :: (two2 s ++ [])) byt_58 (byt_app _ (58 :: (two2 s ++ [])) (dig_byt _ hd2) (byt_app [58] (two2 s ++ []) byt_58 (byt_app _ [] (dig_byt _ hd3) (fun x hx => by cases hx)))))
  have hx : clock_groups.f (strOfNums (two2 h ++ 58 :: (two2 m ++ 58 :: (two2 s ++ [])))) = grL (two2 h ++ 58 :: (two2 m ++ 58 :: (two2 s ++ []))) ([] ++ [⟨0, 0⟩]) (strOfNums []) := groups_eqB _ hB
  have hx1 := dsx _ [] _ (two2 h) _ hx hd1 (by simp [two2])
  rw [two2_val h hh] at hx1
  have hx2 := hx1.trans (grL_sign 58 (two2 m ++ 58 :: (two2 s ++ [])) _ _ (.inl rfl) (by simp) (by simp))
  have hx3 := dsx _ [⟨h, 2⟩] _ (two2 m) _ hx2 hd2 (by simp [two2])
  rw [two2_val m hm] at hx3
  have hx4 := hx3.trans (grL_sign 58 (two2 s ++ []) _ _ (.inl rfl) (by simp) (by simp))
  have hx5 := dsx _ [⟨h, 2⟩, ⟨m, 2⟩] _ (two2 s) [] hx4 hd3 (by simp [two2])
  rw [two2_val s hs] at hx5
  have hx6 : clock_groups.f (strOfNums (two2 h ++ 58 :: (two2 m ++ 58 :: (two2 s ++ [])))) = some ([⟨h, 2⟩, ⟨m, 2⟩, ⟨s, 2⟩], strOfNums [58, 58], true) := hx5
  have e : (c :: two2 h ++ [58] ++ two2 m ++ [58] ++ two2 s) = c :: (two2 h ++ 58 :: (two2 m ++ 58 :: (two2 s ++ []))) := rfl
  rw [e, co_eq c _ (by omega) hc, hx6, Option.bind_some, k_mid c _ _ (by simp) (by rintro ⟨q, _⟩; rw [tl] at q; simp at q)]
  rw [m_end c [⟨h, 2⟩, ⟨m, 2⟩, ⟨s, 2⟩] (strOfNums [58, 58]) (.inr (.inr (by rw [tl]; rfl))) (by simp) (.inr rfl), end3 _ _ _ _ _ (by omega) (by omega) (by omega)]
theorem fin_ok (c n : Int) (h : n ≤ 57599) : fin c n false = some (if c = 45 then -n else n, 0) := by
  unfold fin
  rw [if_neg Bool.false_ne_true, if_neg (by omega)]
  split <;> rfl
theorem back_n (c n : Int) (hc : c = 43 ∨ c = 45) (hn : 0 ≤ n ∧ n ≤ 57599) : clock_ReadOffset.f (strOfNums (offL c n)) = some (if c = 45 then -n else n, 0) := by
  rw [← fin_ok c n hn.2]
  unfold offL
  by_cases h1 : n % 60 = 0
  · by_cases h2 : n % 3600 = 0
    · rw [if_pos h1, if_pos h2, back1 c _ hc (by omega), show n / 3600 * 3600 = n by omega]
    · rw [if_pos h1, if_neg h2, back2 c _ _ hc (by omega) (by omega), show n / 3600 * 3600 + n / 60 % 60 * 60 = n by omega, decide_eq_false (by omega)]
  · rw [if_neg h1, back3 c _ _ _ hc (by omega) (by omega) (by omega), show n / 3600 * 3600 + n / 60 % 60 * 60 + n % 60 = n by omega, decide_eq_false (by omega), decide_eq_false (by omega)]
    rfl
theorem back (s : Int) (h : -57599 ≤ s ∧ s ≤ 57599) : clock_ReadOffset.f (strOfNums (offL (sgn s) s.natAbs)) = some (s, 0) := by
  have hc : sgn s = 43 ∨ sgn s = 45 := by unfold sgn; split <;> simp
  rw [back_n _ _ hc (by omega)]
  unfold sgn
  by_cases hs : s < 0
  · rw [if_pos hs, if_pos rfl, show -((s.natAbs : Nat) : Int) = s by omega]
  · rw [if_neg hs, if_neg (by decide), show ((s.natAbs : Nat) : Int) = s by omega]
theorem known_ok : computuslaw03_known.f 60 = some true := by decide +kernel
theorem known_ev : Ev (fun k => computuslaw03_known.f k) true := Ev.of computuslaw03_known.mono known_ok
end Go.Proofs.Ytecijnjnhdjokaa.FNum
