/- How the reference reads an offset: stages. -/
import Derived.Test.YtecijnjnhdjokaaFLemV
namespace Go.Proofs.Ytecijnjnhdjokaa.FNum
open Go.RowKit Go.Proofs.Ytecijnjnhdjokaa.PClockF Go.Proofs.Ytecijnjnhdjokaa.Utf Go.Proofs.YtecijnjnhdjokaaW.PrintWords Go.Proofs.YtecijnjnhdjokaaW.PrintLast Go.Proofs.YtecijnjnhdjokaaW.PrintMore
set_option linter.unusedVariables false
set_option linter.unusedSimpArgs false
theorem cut (ds r : List Int) (n : Nat) (hd : Dig ds) (h : n < ds.length) : ∃ d1 b t, ds ++ r = d1 ++ b :: t ∧ d1.length = n ∧ Dig d1 ∧ 48 ≤ b ∧ b ≤ 57 := by
  obtain ⟨b, t, et⟩ : ∃ b t, ds.drop n = b :: t := by
    cases hdr : ds.drop n with
    | nil => have := congrArg List.length hdr; rw [List.length_drop, List.length_nil] at this; omega
    | cons b t => exact ⟨b, t, rfl⟩
  have hb := hd b (List.mem_of_mem_drop (by rw [et]; simp))
  refine ⟨ds.take n, b, t ++ r, ?_, by rw [List.length_take]; omega, fun x hx => hd x (List.mem_of_mem_take hx), hb⟩
  rw [← List.cons_append, ← et, ← List.append_assoc, List.take_append_drop]
theorem num_all (least m : Nat) (bad : Bool) (hm : m ≤ 6) (l : List Int) (hB : Byt l) (hz : l.length ≤ 2000000) : ∃ ds r, l = ds ++ r ∧ Dig ds ∧ ds.length ≤ m ∧ Ev (fun k => computusref03_scan_num.f k (strOfNums l) bad least m) (val 0 ds, strOfNums r, bad || decide ((ds.length : Int) < least)) := by
  obtain ⟨ds, r, rfl, hd, hn⟩ := runs l
  by_cases h : ds.length ≤ m
  · exact ⟨ds, r, rfl, hd, h, num_ev _ _ bad (by omega) ds r hB hd (by omega) (.inr hn) hz⟩
  · obtain ⟨d1, b, t, e, h1, h2, _⟩ := cut ds r m hd (by omega)
    rw [e] at hB hz ⊢
    exact ⟨d1, b :: t, rfl, h2, by omega, num_ev _ _ bad (by omega) d1 (b :: t) hB h2 (by omega) (.inl (by omega)) hz⟩
theorem sign_all (c : Int) (hc : 0 ≤ c ∧ c < 256) (l : List Int) (bad : Bool) (hB : Byt l) : ∃ o r, computusref03_scan_sign.f (strOfNums l) bad c = some (o, strOfNums r, bad) ∧ Byt r ∧ r.length ≤ l.length := by
  by_cases h : ∃ t, l = c :: t
  · obtain ⟨t, rfl⟩ := h
    exact ⟨true, t, sign_yes c t bad hc, fun x hx => hB x (by simp [hx]), by simp⟩
  · exact ⟨false, l, sign_no c l bad hB (fun t e => h ⟨t, e⟩), hB, Nat.le_refl _⟩
/-- Behind the second colon. -/
def e3 (k : Nat) (neg : Bool) (h m : Int) (s : ByteArray) (bad : Bool) : Option (Int × Int) := (computusref03_scan_num.f k s bad 2 2).bind fun p5 => roEnd neg h m p5.1 p5.2.1 p5.2.2
/-- Behind the first. -/
def e2 (k : Nat) (neg : Bool) (h : Int) (s : ByteArray) (bad : Bool) : Option (Int × Int) := (computusref03_scan_num.f k s bad 2 2).bind fun p3 => (computusref03_scan_sign.f p3.2.1 p3.2.2 58).bind fun p4 => if p4.1 = true then e3 k neg h p3.1 p4.2.1 p4.2.2 else roEnd neg h p3.1 0 p4.2.1 p4.2.2
theorem else_eq (k : Nat) (neg : Bool) (s : ByteArray) (bad : Bool) : elseB k neg s bad = (computusref03_scan_num.f k s bad 1 2).bind fun p1 => (computusref03_scan_sign.f p1.2.1 p1.2.2 58).bind fun p2 => if p2.1 = true then e2 k neg p1.1 p2.2.1 p2.2.2 else roEnd neg p1.1 0 0 p2.2.1 p2.2.2 := rfl
theorem e3_bad (neg : Bool) (h m : Int) (l : List Int) (hB : Byt l) (hz : l.length ≤ 2000000) : Ev (fun k => e3 k neg h m (strOfNums l) true) (0, 13) := by
  obtain ⟨ds, r, rfl, hd, hl, hn⟩ := num_all 2 2 true (by decide) l hB hz
  unfold e3
  refine Ev.bind hn (Ev.congr (f := fun _ => some (0, 13)) (fun k => ?_) (Ev.now _))
  simp only [Bool.true_or]
  exact o_bad _ _ _ _ _
theorem e2_bad (neg : Bool) (h : Int) (l : List Int) (hB : Byt l) (hz : l.length ≤ 2000000) : Ev (fun k => e2 k neg h (strOfNums l) true) (0, 13) := by
  obtain ⟨ds, r, rfl, hd, hl, hn⟩ := num_all 2 2 true (by decide) l hB hz
  obtain ⟨o, r2, hs, hB2, hl2⟩ := sign_all 58 (by decide) r true (fun x hx => hB x (by simp [hx]))
  unfold e2
  refine Ev.bind hn ?_
  simp only [Bool.true_or, hs, Option.bind_some]
  cases o with
  | true =>
    simp only [if_true]
    exact e3_bad _ _ _ _ hB2 (by rw [List.length_append] at hz; omega)
  | false =>
    refine Ev.congr (f := fun _ => some (0, 13)) (fun k => ?_) (Ev.now _)
    rw [if_neg Bool.false_ne_true]
    exact o_bad _ _ _ _ _
end Go.Proofs.Ytecijnjnhdjokaa.FNum
