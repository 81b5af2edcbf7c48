/- Any time, number and fraction as a text is what the reference says; a time's text is read again. -/
import Derived.Test.YtecijnjnhdjokaaLemR
import Derived.Test.YtecijnjnhdjokaaLemKn
namespace Go.Proofs.Ytecijnjnhdjokaa.Pure
open Go.RowKit Go.Proofs.Ytecijnjnhdjokaa.PClock Go.Proofs.Ytecijnjnhdjokaa.Num Go.Proofs.YtecijnjnhdjokaaW.PrintWords Go.Proofs.YtecijnjnhdjokaaW.PrintLast Go.Proofs.YtecijnjnhdjokaaW.PrintMore
set_option linter.unusedSimpArgs false
theorem t1 : (strOfNums [58, 58]).toList ≠ ([58] : List UInt8) := by decide +kernel
theorem t2 : (strOfNums [58, 58]).toList = ([58, 58] : List UInt8) := by decide +kernel
theorem t3 : (strOfNums [58, 58, 46]).toList ≠ ([58] : List UInt8) := by decide +kernel
theorem t4 : (strOfNums [58, 58, 46]).toList ≠ ([58, 58] : List UInt8) := by decide +kernel
theorem t5 : (strOfNums [58, 58, 46]).toList = ([58, 58, 46] : List UInt8) := by decide +kernel
theorem two_true (n : Int) : clock_group_two.f n 2 = some true := rfl
theorem one_true (n : Int) : clock_group_one.f n 2 = some true := by unfold clock_group_one.f; rw [if_neg (by decide)]; rfl
/-- The reading of three groups. -/
theorem read3 (x : ByteArray) (h m s : Int) (hx : clock_groups.f x = some ([⟨h, 2⟩, ⟨m, 2⟩, ⟨s, 2⟩], strOfNums [58, 58], true)) (r1 : 0 ≤ h ∧ h ≤ 24) (r2 : 0 ≤ m ∧ m ≤ 59) (r3 : 0 ≤ s ∧ s ≤ 59) (r4 : h * 3600000000 + m * 60000000 + s * 1000000 + 0 ≤ 86400000000) : Ev (fun k => clock_Read.f k x) (h * 3600000000 + m * 60000000 + s * 1000000 + 0, 0) := by
  have hf := fill 0 [⟨h, 2⟩, ⟨m, 2⟩, ⟨s, 2⟩, ⟨0, 2⟩, ⟨0, 6⟩] h m s 2 0 6 rfl rfl (by simp) (by decide) (by decide) (by decide) (by decide) r1 r2 r3 r4
  refine Ev.congr (f := fun k => clock_Read.j0 k [⟨h, 2⟩, ⟨m, 2⟩, ⟨s, 2⟩] (strOfNums [58, 58]) false) (fun k => ?_) ?_
  · unfold clock_Read.f
    rw [hx, Option.bind_some]
    simp only [if_true]
    rw [if_neg t1, if_pos t2, if_pos (by simp)]
    simp only [rd_T45, Int.toNat_zero, List.getD_cons_zero, one_true, Option.bind_some, if_true]
    rw [if_pos (by simp)]
    simp only [show (1 : Int).toNat = 1 from rfl, List.getD_cons_succ, List.getD_cons_zero, two_true, Option.bind_some, Bool.not_true]
  · refine Ev.step (f := fun k => clock_Read.j1 k [⟨h, 2⟩, ⟨m, 2⟩, ⟨s, 2⟩, ⟨0, 2⟩, ⟨0, 6⟩] s 2 0 6) (fun k => ?_) ?_
    · rw [clock_Read.j0, if_neg Bool.false_ne_true, Option.bind_some, if_pos (by simp), Option.bind_some]
      rw [if_pos (by simp), if_pos (by simp), if_neg t1, if_pos t2]
      rfl
    · refine Ev.step (f := fun k => clock_Read.j2 k [⟨h, 2⟩, ⟨m, 2⟩, ⟨s, 2⟩, ⟨0, 2⟩, ⟨0, 6⟩] false s 2 0 6) (fun k => ?_) ?_
      · rw [clock_Read.j1, two_true, Option.bind_some, if_pos rfl]
        rfl
      · refine Ev.step (fun k => ?_) hf
        rw [clock_Read.j2, if_neg Bool.false_ne_true]
/-- The reading of four. -/
theorem read4 (x : ByteArray) (h m s v : Int) (z e : Nat) (hx : clock_groups.f x = some ([⟨h, 2⟩, ⟨m, 2⟩, ⟨s, 2⟩, ⟨v, e⟩], strOfNums [58, 58, 46], true)) (he : 0 < e) (hz : e + z = 6) (hv : 0 ≤ v) (hu : up v z ≤ 999999) (r1 : 0 ≤ h ∧ h ≤ 24) (r2 : 0 ≤ m ∧ m ≤ 59) (r3 : 0 ≤ s ∧ s ≤ 59) (r4 : h * 3600000000 + m * 60000000 + s * 1000000 + up v z ≤ 86400000000) : Ev (fun k => clock_Read.f k x) (h * 3600000000 + m * 60000000 + s * 1000000 + up v z, 0) := by
  have hf := fill z [⟨h, 2⟩, ⟨m, 2⟩, ⟨s, 2⟩, ⟨v, e⟩, ⟨0, 2⟩, ⟨0, 6⟩] h m s 2 v e rfl rfl (by simp) (by omega) hv hu (by omega) r1 r2 r3 r4
  refine Ev.congr (f := fun k => clock_Read.j0 k [⟨h, 2⟩, ⟨m, 2⟩, ⟨s, 2⟩, ⟨v, e⟩] (strOfNums [58, 58, 46]) false) (fun k => ?_) ?_
  · unfold clock_Read.f
    rw [hx, Option.bind_some]
    simp only [if_true]
    rw [if_neg t3, if_neg t4, if_pos t5, if_pos (by simp)]
    simp only [rd_T45, Int.toNat_zero, List.getD_cons_zero, one_true, Option.bind_some, if_true]
    rw [if_pos (by simp)]
    simp only [show (1 : Int).toNat = 1 from rfl, List.getD_cons_succ, List.getD_cons_zero, two_true, Option.bind_some, Bool.not_true]
  · refine Ev.step (f := fun k => clock_Read.j1 k [⟨h, 2⟩, ⟨m, 2⟩, ⟨s, 2⟩, ⟨v, e⟩, ⟨0, 2⟩, ⟨0, 6⟩] s 2 v e) (fun k => ?_) ?_
    · rw [clock_Read.j0, if_neg Bool.false_ne_true, Option.bind_some, if_pos (by simp), Option.bind_some]
      rw [if_pos (by simp), if_pos (by simp), if_neg t3, if_neg t4]
      rfl
    · refine Ev.step (f := fun k => clock_Read.j2 k [⟨h, 2⟩, ⟨m, 2⟩, ⟨s, 2⟩, ⟨v, e⟩, ⟨0, 2⟩, ⟨0, 6⟩] false s 2 v e) (fun k => ?_) ?_
      · rw [clock_Read.j1, two_true, Option.bind_some, if_pos rfl]
        rw [show ((e : Int) == 0) = false by simp; omega]
      · refine Ev.step (fun k => ?_) hf
        rw [clock_Read.j2, if_neg Bool.false_ne_true]
theorem asc_two (n : Nat) : Asc (decL 20 n 2 []) := dec_asc 20 n 2 [] Asc.nil
/-- A time's own text is read again as it was. -/
theorem read_text (t : Int) (h0 : 0 ≤ t) (h1 : t ≤ 86400000000) (r : ByteArray) (hr : clock_text.f t = some r) : Ev (fun k => clock_Read.f k r) (t, 0) := by
  obtain ⟨l, h2, h3, h4, h5⟩ := text_some t h0 (by omega)
  obtain rfl := Option.some.inj (hr.symm.trans h2)
  have hsum : t / 3600000000 * 3600000000 + t / 60000000 % 60 * 60000000 + t / 1000000 % 60 * 1000000 + t % 1000000 = t := by omega
  have q1 : 0 ≤ t / 3600000000 ∧ t / 3600000000 ≤ 24 := by omega
  have q2 : 0 ≤ t / 60000000 % 60 ∧ t / 60000000 % 60 ≤ 59 := by omega
  have q3 : 0 ≤ t / 1000000 % 60 ∧ t / 1000000 % 60 ≤ 59 := by omega
  have q4 : 0 ≤ t % 1000000 ∧ t % 1000000 ≤ 999999 := by omega
  clear hr h2
  have hasc : Asc (decL 20 (t / 3600000000).toNat 2 [] ++ [58] ++ decL 20 (t / 60000000 % 60).toNat 2 [] ++ [58] ++ decL 20 (t / 1000000 % 60).toNat 2 [] ++ l) :=
    ((((asc_two _).app (Asc.cons (by decide) Asc.nil)).app (asc_two _)).app (Asc.cons (by decide) Asc.nil)).app (asc_two _) |>.app h4
  have hgr := groups_eq _ hasc
  generalize t / 3600000000 = h at *
  generalize t / 60000000 % 60 = m at *
  generalize t / 1000000 % 60 = s at *
  generalize t % 1000000 = u at *
  have d2 : ∀ n : Int, 0 ≤ n → n < 100 → decL 20 n.toNat 2 [] = [48 + n / 10 % 10, 48 + n % 10] := by
    intro n g0 g1
    rw [two_digits _ (by omega)]
    obtain ⟨k, rfl⟩ : ∃ k : Nat, n = (k : Int) := ⟨n.toNat, by omega⟩
    rw [Int.toNat_natCast, Int.natCast_ediv]
    rfl
  rw [d2 h q1.1 (by omega), d2 m q2.1 (by omega), d2 s q3.1 (by omega)] at hgr ⊢
  simp only [List.cons_append, List.nil_append, List.append_assoc] at hgr ⊢
  have s1 := grL_two (h / 10 % 10) (h % 10) (58 :: (48 + m / 10 % 10) :: (48 + m % 10) :: 58 :: (48 + s / 10 % 10) :: (48 + s % 10) :: l) [] ⟨#[]⟩ (by omega) (by omega)
  rw [List.nil_append, List.nil_append] at s1
  rw [s1, show (⟨#[]⟩ : ByteArray) = strOfNums [] from rfl, grL_sign 58 _ _ [] (.inl rfl) (by simp) (by simp)] at hgr
  rw [grL_two (m / 10 % 10) (m % 10) _ _ _ (by omega) (by omega), grL_sign 58 _ _ _ (.inl rfl) (by simp) (by simp), grL_two (s / 10 % 10) (s % 10) _ _ _ (by omega) (by omega)] at hgr
  rw [show 10 * (h / 10 % 10) + h % 10 = h by omega, show 10 * (m / 10 % 10) + m % 10 = m by omega, show 10 * (s / 10 % 10) + s % 10 = s by omega] at hgr
  clear s1 hasc d2
  by_cases hu : u = 0
  · subst hu
    rw [fraction_out 0 (.inl (by decide))] at h5
    have hl : l = [] := by
      have := congrArg ByteArray.size (Option.some.inj h5)
      rw [strOfNums_size] at this
      exact List.length_eq_zero_iff.1 this.symm
    subst hl
    have h6 := read3 _ h m s hgr q1 q2 q3 (by omega)
    rw [hsum] at h6
    exact h6
  · obtain ⟨a, d, z, hd, hs⟩ := six_some u.toNat (by omega) (by omega)
    have hl0 : (a ++ d :: List.replicate z 48).length = 6 := by rw [← hs]; rfl
    rw [List.length_append, List.length_cons, List.length_replicate] at hl0
    have hfr := fraction_in u (by omega) (by omega) a d z hd hs
    have e6 : strOfNums l = strOfNums (46 :: (a ++ [d])) := Option.some.inj (h5.symm.trans hfr)
    have hdig : Dig (sixL u.toNat) := by
      intro x hx
      simp only [sixL, List.mem_cons, List.not_mem_nil, or_false] at hx
      omega
    have hdig2 : Dig (a ++ [d]) := by
      intro x hx
      refine hdig x ?_
      rw [hs]
      simp only [List.mem_append, List.mem_cons, List.not_mem_nil, or_false] at hx ⊢
      rcases hx with g | g
      · exact .inl g
      · exact .inr (.inl g)
    have hval : up (val 0 (a ++ [d])) z = u := by
      rw [← val_rep, ← val_app, List.append_assoc]
      rw [show [d] ++ List.replicate z 48 = d :: List.replicate z 48 from rfl, ← hs, six_val _ (by omega)]
      omega
    have hv0 : 0 ≤ val 0 (a ++ [d]) := by have := val_low (a ++ [d]) 0 hdig2; omega
    have hvu := up_low z _ hv0
    have hl : l = 46 :: (a ++ [d]) := by
      have e7 : (l.map fun n => UInt8.ofNat n.toNat) = ((46 :: (a ++ [d])).map fun n => UInt8.ofNat n.toNat) := by
        rw [← strOfNums_data, ← strOfNums_data, e6]
      have ha2 : Asc (46 :: (a ++ [d])) := Asc.cons (by decide) (fun x hx => by have := hdig2 x hx; omega)
      have hinj : ∀ (p q : List Int), Asc p → Asc q → (p.map fun n => UInt8.ofNat n.toNat) = (q.map fun n => UInt8.ofNat n.toNat) → p = q := by
        intro p
        induction p with
        | nil => intro q _ _ e; cases q with
          | nil => rfl
          | cons _ _ => simp at e
        | cons x t ih => intro q hp hq e; cases q with
          | nil => simp at e
          | cons y w =>
            simp only [List.map_cons, List.cons.injEq] at e
            have hx := hp x (by simp)
            have hy := hq y (by simp)
            have e1 := congrArg UInt8.toNat e.1
            rw [UInt8.toNat_ofNat', UInt8.toNat_ofNat'] at e1
            rw [ih w (fun i hi => hp i (by simp [hi])) (fun i hi => hq i (by simp [hi])) e.2, show x = y by omega]
      exact hinj _ _ h4 ha2 e7
    subst hl
    rw [grL_sign 46 _ _ _ (.inr rfl) (by simp) (by simp), grL_run _ _ _ _ _ hdig2 (by decide) (by omega) (by decide) (by simp; omega)] at hgr
    have h6 := read4 _ h m s (val 0 (a ++ [d])) z (a.length + 1) (by rw [hgr]; simp) (by omega) (by omega) hv0 (by omega) q1 q2 q3 (by omega)
    rw [hval, hsum] at h6
    exact h6
theorem ClockTexts : computuslaw03_ClockTexts.Pure := by
  intro a h
  obtain ⟨h1, h2⟩ := i64_range a h
  obtain ⟨l2, _, a2, b2⟩ := two_eq a h1 h2
  obtain ⟨l3, a3, b3, _, _⟩ := fraction_eq a
  obtain ⟨l4, a4, b4⟩ := long_both a h1 h2
  have hfin : ∀ (r : ByteArray) (e : Int), (e = 0 → Ev (fun k => clock_Read.f k r) (a, 0)) → Ev (fun k => computuslaw03_ClockTexts.j0 k a r e false) true := by
    intro r e hre
    by_cases he : e = 0
    · refine Ev.step (f := fun k => (clock_Read.f k r).bind fun bt211 => (if bt211.1 = a then (if bt211.2 = 0 then ((computuslaw03_known.f k).bind fun t213 => (some t213)) else (some false)) else (some false))) (fun k => ?_) (Ev.bind (hre he) ?_)
      · rw [computuslaw03_ClockTexts.j0, if_neg Bool.false_ne_true, if_pos he]
      · simp only [if_true]
        exact Ev.bind known_ev (Ev.now true)
    · refine Ev.step (f := fun k => (computuslaw03_known.f k).bind fun t213 => (some t213)) (fun k => ?_) (Ev.bind known_ev (Ev.now true))
      rw [computuslaw03_ClockTexts.j0, if_neg Bool.false_ne_true, if_neg he]
  have hrest : ∀ (r : ByteArray) (e : Int), clock_Text.f a = some (r, e) → Ev (fun k => computusref03_Text.f k a) (r, e) → (e = 0 → Ev (fun k => clock_Read.f k r) (a, 0)) → Ev (fun k => computuslaw03_ClockTexts.f k a) true := by
    intro r e g1 g2 g3
    unfold computuslaw03_ClockTexts.f
    simp only [g1, a2, a3, a4, Option.bind_some]
    refine Ev.bind g2 ?_
    simp only [if_true]
    refine Ev.bind b2 ?_
    simp only [if_true]
    refine Ev.bind b3 ?_
    simp only [if_true]
    refine Ev.bind b4 ?_
    simp only [bne_self_eq_false]
    exact hfin r e g3
  refine Ev.rounds (r := true) ?_
  by_cases ht : 0 ≤ a ∧ a ≤ 86400000000
  · obtain ⟨l, _, g1, g2, _⟩ := text_both a ht.1 (by omega)
    exact hrest _ 0 (text_in a ht _ g1) (g2 ht.2) (fun _ => read_text a ht.1 ht.2 _ g1)
  · obtain ⟨g1, g2⟩ := text_out a ht
    exact hrest _ 10 g1 (Ev.congr g2 (Ev.now _)) (fun g => absurd g (by decide))
end Go.Proofs.Ytecijnjnhdjokaa.Pure
