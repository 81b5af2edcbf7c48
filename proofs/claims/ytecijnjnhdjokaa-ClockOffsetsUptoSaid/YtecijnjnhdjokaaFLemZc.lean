/- Any text as an offset: both read it alike. -/
import Derived.Test.YtecijnjnhdjokaaFLemZb
namespace Go.Proofs.Ytecijnjnhdjokaa.FNum
open Go.RowKit Go.Proofs.Ytecijnjnhdjokaa.PClockF Go.Proofs.Ytecijnjnhdjokaa.Utf Go.Proofs.YtecijnjnhdjokaaW.PrintWords Go.Proofs.YtecijnjnhdjokaaW.PrintLast Go.Proofs.YtecijnjnhdjokaaW.PrintMore
set_option linter.unusedVariables false
set_option linter.unusedSimpArgs false
/-- What both answer, behind the sign. -/
def SameB (neg : Bool) (x : ByteArray) : Prop := ∃ r : Int × Int, (clock_groups.f x).bind (K (if neg = true then 45 else 43)) = some r ∧ Ev (fun k => roBody k neg x false) r
theorem four (neg : Bool) (a b c e : Int) (hd : Dig [a, b, c, e]) : SameB neg (strOfNums [a, b, c, e]) := by
  have ha := hd a (by simp)
  have hb := hd b (by simp)
  have hc := hd c (by simp)
  have he := hd e (by simp)
  have hB : Byt [a, b, c, e] := fun x hx => by have := hd x hx; omega
  have hx : clock_groups.f (strOfNums [a, b, c, e]) = grL ([a, b, c, e] ++ []) ([] ++ [⟨0, 0⟩]) (strOfNums []) := groups_eqB _ hB
  have hx2 : clock_groups.f (strOfNums [a, b, c, e]) = some ([⟨val 0 [a, b, c, e], 4⟩], strOfNums [], true) := dsx _ [] _ [a, b, c, e] [] hx hd (by simp)
  have hv : val 0 [a, b, c, e] = 1000 * (a - 48) + 100 * (b - 48) + 10 * (c - 48) + (e - 48) := by simp only [val]; omega
  obtain ⟨q, hq⟩ := fin_some (if neg = true then 45 else 43) ((10 * (a - 48) + (b - 48)) * 3600 + (10 * (c - 48) + (e - 48)) * 60) (decide (59 < 10 * (c - 48) + (e - 48)))
  refine ⟨q, ?_, ?_⟩
  · rw [hx2, Option.bind_some]
    unfold K
    rw [if_pos rfl, if_pos (by simp), if_pos ⟨by rw [tl]; rfl, rfl⟩]
    show (if 0 ≤ val 0 [a, b, c, e] ∧ val 0 [a, b, c, e] ≤ 999999 then coMid _ [⟨IntKind.i64.wrap ((val 0 [a, b, c, e]).tdiv 100), 2⟩, ⟨(val 0 [a, b, c, e]).tmod 100, 2⟩] ⟨#[58]⟩ else none) = some q
    rw [if_pos (by omega), td _ _ (by omega), tm _ _ (by omega), i64_w, w64 _ (by omega) (by omega)]
    rw [show val 0 [a, b, c, e] / 100 = 10 * (a - 48) + (b - 48) by omega, show val 0 [a, b, c, e] % 100 = 10 * (c - 48) + (e - 48) by omega]
    rw [m_end _ _ (⟨#[58]⟩ : ByteArray) (.inr (.inl (by decide +kernel))) (by simp) (.inr rfl), end2 _ _ _ _ (by omega) (by omega), hq]
  · have n1 := num_ev 2 2 false (by decide) [a, b] [c, e] hB (fun x hx => hd x (by simp at hx ⊢; omega)) (by simp) (.inl (by simp)) (by simp)
    have n2 := num_ev 2 2 false (by decide) [c, e] [] (fun x hx => hB x (by simp at hx ⊢; omega)) (fun x hx => hd x (by simp at hx ⊢; omega)) (by simp) (.inl (by simp)) (by simp)
    have b1 : bt (strOfNums [a, b, c, e]) 1 = b := bt_numsB [a, b, c, e] 1 (by simp) (by show 0 ≤ b ∧ b < 256; omega)
    have b2 : bt (strOfNums [a, b, c, e]) 2 = c := bt_numsB [a, b, c, e] 2 (by simp) (by show 0 ≤ c ∧ c < 256; omega)
    unfold roBody
    simp only [show ((strOfNums [a, b, c, e]).size = 4 ∧ ¬ bt (strOfNums [a, b, c, e]) 1 = 58 ∧ ¬ bt (strOfNums [a, b, c, e]) 2 = 58) from ⟨by rw [strOfNums_size]; rfl, by rw [b1]; omega, by rw [b2]; omega⟩, and_self, not_false_eq_true, if_true]
    refine Ev.bind n1 ?_
    simp only [List.length_cons, List.length_nil]
    refine Ev.bind n2 (Ev.congr (f := fun _ => some q) (fun k => ?_) (Ev.now _))
    have hend := o_end neg (val 0 [a, b]) (val 0 [c, e]) 0 (by simp only [val]; omega) (by simp only [val]; omega) (by decide)
    show roEnd neg (val 0 [a, b]) (val 0 [c, e]) 0 (strOfNums []) false = some q
    rw [hend, show val 0 [a, b] = 10 * (a - 48) + (b - 48) by simp only [val]; omega, show val 0 [c, e] = 10 * (c - 48) + (e - 48) by simp only [val]; omega, Int.add_zero, show decide ((59 : Int) < 0) = false from rfl, Bool.or_false, hq]
theorem ev_unique {α : Type} {g : Nat → Option α} {a b : α} (h1 : Ev g a) (h2 : Ev g b) : a = b := by
  obtain ⟨k1, g1⟩ := h1
  obtain ⟨k2, g2⟩ := h2
  exact Option.some.inj ((g1 (max k1 k2) (Nat.le_max_left _ _)).symm.trans (g2 (max k1 k2) (Nat.le_max_right _ _)))
/-- The reference's first way, where no four digits stand. -/
theorem first_bad (neg : Bool) (t : List Int) (hB : Byt t) (hl : t.length = 4) (h4 : ¬ Dig t) (hb : (strOfNums t).size = 4 ∧ ¬ bt (strOfNums t) 1 = 58 ∧ ¬ bt (strOfNums t) 2 = 58) : Ev (fun k => roBody k neg (strOfNums t) false) (0, 13) := by
  unfold roBody
  simp only [hb, not_false_eq_true, and_self, if_true]
  obtain ⟨d1, r1, rfl, hd1, hl1, n1⟩ := num_all 2 2 false (by decide) t hB (by omega)
  obtain ⟨d2, r2, rfl, hd2, hl2, n2⟩ := num_all 2 2 (false || decide ((d1.length : Int) < 2)) (by decide) r1 (fun x hx => hB x (by simp [hx])) (by simp at hl; omega)
  refine Ev.bind n1 (Ev.bind n2 (Ev.congr (f := fun _ => some (0, 13)) (fun k => ?_) (Ev.now _)))
  simp only
  by_cases hx : d1.length < 2 ∨ d2.length < 2
  · have hor : (false || decide ((d1.length : Int) < 2) || decide ((d2.length : Int) < 2)) = true := by
      rcases hx with h | h
      · rw [decide_eq_true (show (d1.length : Int) < 2 by omega)]; rfl
      · rw [decide_eq_true (show (d2.length : Int) < 2 by omega), Bool.or_true]
    exact hor ▸ o_bad neg _ _ _ _
  · exfalso
    have hr : r2 = [] := by
      have : r2.length = 0 := by simp at hl; omega
      exact List.length_eq_zero_iff.1 this
    subst hr
    refine h4 (fun x hx => ?_)
    rw [List.append_nil] at hx
    exact (List.mem_append.1 hx).elim (hd1 x) (hd2 x)
theorem else_bad (neg : Bool) (t : List Int) (hB : Byt t) (hl : t.length = 4) (h1 : ¬ bt (strOfNums t) 1 = 58) (h2 : ¬ bt (strOfNums t) 2 = 58) : Ev (fun k => elseB k neg (strOfNums t) false) (0, 13) := by
  obtain ⟨d, r, rfl, hd, hn⟩ := runs t
  refine q1_bad neg d r hB (by omega) hd hn ?_
  by_cases h0 : d.length = 0
  · exact .inl h0
  by_cases h3 : 2 < d.length
  · exact .inr (.inl h3)
  refine .inr (.inr ⟨fun e => ?_, fun u e => ?_⟩)
  · subst e
    simp at hl
    omega
  · subst e
    have hlen : d.length < (d ++ 58 :: u).length := by simp
    have hb : bt (strOfNums (d ++ 58 :: u)) (d.length : Int) = 58 := by
      rw [bt_numsB _ _ hlen (by simp), List.getElem_append_right (Nat.le_refl _)]
      simp
    rcases (show d.length = 1 ∨ d.length = 2 by omega) with g | g
    · rw [g] at hb; exact h1 hb
    · rw [g] at hb; exact h2 hb
theorem bodyBoth (neg : Bool) (t : List Int) (hB : Byt t) (hz : t.length ≤ 1500000) : SameB neg (strOfNums t) := by
  by_cases h4 : Dig t ∧ t.length = 4
  · obtain ⟨hd, hl⟩ := h4
    match t, hl with
    | [a, b, c, e], _ => exact four neg a b c e hd
  · obtain ⟨r, g1, g2⟩ := both_else neg t hB hz (fun d e hd hl => h4 ⟨e ▸ hd, by rw [e]; exact hl⟩)
    by_cases hb : (strOfNums t).size = 4 ∧ ¬ bt (strOfNums t) 1 = 58 ∧ ¬ bt (strOfNums t) 2 = 58
    · have hl : t.length = 4 := by have := hb.1; rw [strOfNums_size] at this; exact this
      have e := ev_unique g2 (else_bad neg t hB hl hb.2.1 hb.2.2)
      subst e
      exact ⟨_, g1, first_bad neg t hB hl (fun q => h4 ⟨q, hl⟩) hb⟩
    · exact ⟨r, g1, Ev.congr (fun k => body_else k neg _ hb) g2⟩
/-- Both readings of any text. -/
theorem offBoth (x : ByteArray) (hz : x.size ≤ 1500001) : ∃ r : Int × Int, clock_ReadOffset.f x = some r ∧ Ev (fun k => computusref03_ReadOffset.f k x) r := by
  obtain ⟨l, hB, rfl⟩ := as_nums x
  rw [strOfNums_size] at hz
  cases l with
  | nil =>
    refine ⟨(0, 13), co_nil, ?_⟩
    have s1 := sign_no 45 [] false hB (fun t e => by cases e)
    have s2 := sign_no 43 [] false hB (fun t e => by cases e)
    unfold computusref03_ReadOffset.f
    simp only [s1, s2, Option.bind_some]
    exact Ev.now _
  | cons c t =>
    have hc := hB c (by simp)
    have hBt : Byt t := fun y hy => hB y (by simp [hy])
    have hzt : t.length ≤ 1500000 := by simp at hz; omega
    by_cases h45 : c = 45
    · subst h45
      obtain ⟨r, g1, g2⟩ := bodyBoth true t hBt hzt
      refine ⟨r, by rw [co_eq 45 t (by decide) (.inr rfl)]; exact g1, ?_⟩
      have s1 := sign_yes 45 t false (by decide)
      unfold computusref03_ReadOffset.f
      simp only [s1, Option.bind_some, if_true]
      exact g2
    · have s1 := sign_no 45 (c :: t) false hB (fun u e => by injection e with e1 _; exact h45 e1)
      by_cases h43 : c = 43
      · subst h43
        obtain ⟨r, g1, g2⟩ := bodyBoth false t hBt hzt
        refine ⟨r, by rw [co_eq 43 t (by decide) (.inl rfl)]; exact g1, ?_⟩
        have s2 := sign_yes 43 t false (by decide)
        unfold computusref03_ReadOffset.f
        simp only [s1, s2, Option.bind_some, if_true]
        exact g2
      · refine ⟨(0, 13), co_other c t hc ⟨h43, h45⟩, ?_⟩
        have s2 := sign_no 43 (c :: t) false hB (fun u e => by injection e with e1 _; exact h43 e1)
        unfold computusref03_ReadOffset.f
        simp only [s1, s2, Option.bind_some]
        exact Ev.now _
end Go.Proofs.Ytecijnjnhdjokaa.FNum
