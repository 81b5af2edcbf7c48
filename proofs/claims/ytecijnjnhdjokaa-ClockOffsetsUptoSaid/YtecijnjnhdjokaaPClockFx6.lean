-- Written by a program of this session (mkprint.py, over the kit's print), out of the translation and of the contracts that the session gives.
import Derived.Test.YtecijnjnhdjokaaPClockFx0
import Derived.Test.YtecijnjnhdjokaaPClockFx2
namespace Go.Proofs.Ytecijnjnhdjokaa.PClockF
open Go.RowKit Go.Proofs.YtecijnjnhdjokaaW.PrintWords Go.Proofs.YtecijnjnhdjokaaW.PrintLast Go.Proofs.YtecijnjnhdjokaaW.PrintMore
attribute [local go_sem] max2_int min2_int max_two min_two max_three min_three max_four min_four   -- for this text's walks alone
set_option linter.unusedVariables false
set_option linter.unusedSimpArgs false

/-! ### clock_ReadOffset: function 26 -/
/-- The groups behind the first one, summed. -/
def coLoop : List S45 → Int → Int → Bool → Option (Option (Int × Bool))
  | [], n, _, most => some (some (n, most))
  | g :: t, n, unit, most =>
    if g.f1 = 2 then (if (0 ≤ g.f0 ∧ g.f0 ≤ 999999) ∧ (0 ≤ n ∧ n ≤ 100000000000) ∧ 0 ≤ unit ∧ unit ≤ 60 then coLoop t (n + g.f0 * unit) (unit / 60) (most || decide (59 < g.f0)) else none)
    else some none
def coEnd (c : Int) (l : List S45) : Option (Int × Int) :=
  if 0 ≤ (rd_T45 l 0).f0 ∧ (rd_T45 l 0).f0 ≤ 999999 ∧ 0 < l.length ∧ l.length ≤ 1000000 then
    (coLoop l.tail ((rd_T45 l 0).f0 * 3600) 60 false).bind fun r => match r with
      | none => some (0, 13)
      | some (n, most) => if 0 ≤ n then (if most = true then some (0, 10) else if 57599 < n then some (0, 10) else if c = 45 then some (-n, 0) else some (n, 0)) else none
  else none
def coMid (c : Int) (l : List S45) (sg : ByteArray) : Option (Int × Int) :=
  if sg.toList = ([] : List UInt8) ∨ sg.toList = ([58] : List UInt8) ∨ sg.toList = ([58, 58] : List UInt8) then
    (if 0 < l.length then (if (rd_T45 l 0).f1 = 1 ∨ (rd_T45 l 0).f1 = 2 then coEnd c l else some (0, 13)) else none)
  else some (0, 13)
/-- 'clock.ReadOffset'. -/
def clock_ReadOffset.f (a0 : ByteArray) : Option (Int × Int) :=
  if a0.size = 0 then some (0, 13)
  else if bt a0 0 ≠ 43 ∧ bt a0 0 ≠ 45 then some (0, 13)
  else (clock_groups.f (a0.extract 1 a0.size)).bind fun g =>
    if g.2.2 = true then
      (if 0 < g.1.length then
        (if g.2.1.toList = ([] : List UInt8) ∧ (rd_T45 g.1 0).f1 = 4 then
          (if 0 ≤ (rd_T45 g.1 0).f0 ∧ (rd_T45 g.1 0).f0 ≤ 999999 then coMid (bt a0 0) [⟨IntKind.i64.wrap ((rd_T45 g.1 0).f0.tdiv 100), 2⟩, ⟨(rd_T45 g.1 0).f0.tmod 100, 2⟩] ⟨#[58]⟩ else none)
        else coMid (bt a0 0) g.1 g.2.1)
      else none)
    else some (0, 13)
def CoInv (l : List S45) (r : Option (Int × Bool)) (w : World) (v : Value) (kq : Nat) (n u : Int) (mo : Bool) (i : Nat) (w' : World) : Prop :=
  i + kq = l.length ∧ i + 1 ≤ l.length ∧ coLoop (l.drop (i + 1)) n u mo = some r ∧ Kd.R k45 45 w' w.heap.size (fun _ => True) v l ∧ Below w.heap.size w w'
theorem co_lt {base g cap : Nat} {w : World} {l : List S45} (h : Kd.R k45 45 w base (fun _ => True) (.slice (some ⟨g, 0, none⟩) l.length cap) l) (hn : l.length ≠ 0) : g < w.heap.size ∧ l.length ≤ cap := by
  obtain ⟨inner, ho⟩ := Kd.R_own h
  rcases ho.2 with ⟨_, h0⟩ | ⟨g', cap', cur, hv, hg, hh, hc, _⟩
  · exact absurd h0 hn
  · injection hv with h1 h2 h3
    injection h1 with h1
    injection h1 with h1
    subst h1 h3
    exact ⟨(Array.getElem?_eq_some_iff.1 hh).1, hc⟩
theorem co_new (w : World) (a b : Int) (base : Nat) (hb : base ≤ w.heap.size) : Kd.R k45 45 (w.alloc (.cells #[.int .i64 a, .int .i64 2, .int .i64 b, .int .i64 2] 45)) base (fun _ => True) (.slice (some ⟨w.heap.size, 0, none⟩) 2 2) [⟨a, 2⟩, ⟨b, 2⟩] := by
  refine ⟨fun k hk => trivial, ?_⟩
  have hr : Reps (k45.M (w.alloc (.cells #[.int .i64 a, .int .i64 2, .int .i64 b, .int .i64 2] 45)) base (fun k => True ∧ some k ≠ (Value.slice (some ⟨w.heap.size, 0, none⟩) 2 2).ownBlock)) k45.sz [(⟨a, 2⟩ : S45), ⟨b, 2⟩] ([.int .i64 a, .int .i64 2] ++ [.int .i64 b, .int .i64 2]) := Reps.snoc (Reps.snoc (Reps.none _ _) (k45_mkM' _ _ _ a 2) rfl) (k45_mkM' _ _ _ b 2) rfl
  exact ⟨_, ⟨rfl, .inr ⟨w.heap.size, 2, _, rfl, hb, heap_alloc_new w _, Nat.le_refl _, by unfold maxLen; omega, rfl, rfl⟩⟩, hr⟩
set_option maxHeartbeats 4000000 in
set_option maxRecDepth 100000 in
theorem clock_ReadOffset.calls (a0 : ByteArray) (r1 r2 : Int) (w : World) (h : clock_ReadOffset.f a0 = some (r1, r2)) :
    Calls Try.prog 26 #[.string a0] w fun e w' => e = .returned (.tuple #[.int .i64 r1, .int .i64 r2]) ∧ Below w.heap.size w w' := by
  have hu45 := Try.underlying45
  unfold clock_ReadOffset.f at h
  by_cases h0 : a0.size = 0
  · rw [if_pos h0] at h
    obtain ⟨N1, N2⟩ := Prod.mk.inj (Option.some.inj h)
    subst N1 N2
    have f0 : a0.toList.isEmpty = true := by rw [ByteArray.toList_eq, List.isEmpty_iff, ← List.length_eq_zero_iff, Array.length_toList]; exact h0
    clear h h0
    go_enter Try.func26, Try.ntmps26
    go_wp2_with (fail)
    go_ret2
    exact ⟨rfl, Below.refl _ _⟩
  rw [if_neg h0] at h
  have f0 : a0.toList.isEmpty = false := by rw [ByteArray.toList_eq]; cases he : a0.data.toList with
    | nil => exact absurd (by have := congrArg List.length he; rw [Array.length_toList] at this; exact this) h0
    | cons _ _ => rfl
  have q6 : 0 < a0.size := by omega
  have hx6 : ∀ h : 0 < a0.size, ((a0[0]'h).toNat : Int) = bt a0 0 := bt_at a0 0
  have qi6 : (0 < (a0.size : Int)) = True := eq_true (by omega)
  have c8 : (1 ≤ (a0.size : Int)) = True := eq_true (by omega)
  have c8b1 : decide (1 ≤ (a0.size : Int)) = true := decide_eq_true (by omega)
  have c8n : (1 ≤ a0.size) = True := eq_true (by omega)
  replace q6 := eq_true q6
  clear h0
  by_cases hb : bt a0 0 ≠ 43 ∧ bt a0 0 ≠ 45
  · rw [if_pos hb] at h
    obtain ⟨N1, N2⟩ := Prod.mk.inj (Option.some.inj h)
    subst N1 N2
    have f1 : (bt a0 0 != 43) = true := by simpa using hb.1
    have f2 : (bt a0 0 != 45) = true := by simpa using hb.2
    clear h hb
    go_enter Try.func26, Try.ntmps26
    go_wp2_with (fail)
    go_ret2
    exact ⟨rfl, Below.refl _ _⟩
  rw [if_neg hb] at h
  obtain ⟨⟨l, sg, ok⟩, q1, h⟩ := Option.bind_eq_some_iff.mp h
  simp only at q1 h
  have Q1 := Aside0.mk q1
  have H := Aside0.mk h
  have hcase : ((bt a0 0 != 43) = false) ∨ ((bt a0 0 != 43) = true ∧ (bt a0 0 != 45) = false) := by
    by_cases g : bt a0 0 = 43
    · exact .inl (by simpa using g)
    · exact .inr ⟨by simpa using g, by simp; exact Classical.byContradiction fun g2 => hb ⟨g, g2⟩⟩
  clear q1 h hb
  rcases hcase with f1 | ⟨f1, f2⟩
  · have hzz := f1
    go_enter Try.func26, Try.ntmps26
    go_upto_region 4 with (first | (go_at_call 33; have X := (clock_groups.calls _ l sg ok w Q1.out); with_reducible refine X.mono ?_; clear X; rintro e w1 ⟨v0, rfl, hR, hB⟩; have HR := Aside0.mk hR; have HB := Aside0.mk hB; clear hR hB))
    have h := H.out
    cases ok with
    | false =>
      rw [if_neg Bool.false_ne_true] at h
      obtain ⟨N1, N2⟩ := Prod.mk.inj (Option.some.inj h)
      subst N1 N2
      clear h H
      go_wp2_with (fail)
      go_ret2
      exact ⟨rfl, HB.out⟩
    | true =>
      rw [if_pos rfl] at h
      by_cases hl : 0 < l.length
      · rw [if_pos hl] at h
        obtain ⟨g, cap, hv, hg⟩ := gr_open HR.out (by omega)
        subst hv
        obtain ⟨ad, ead, hx0, hx1⟩ := at_T45 (Kd.R_reads' HR.out).2.2 0 (by omega) (by omega)
        injection ead with ead
        subst ead
        rw [show (0 : Int).toNat * 2 = 0 from rfl, Addr.add_zero'] at hx0 hx1
        have qi : (0 < l.length) = True := eq_true hl
        by_cases hh : sg.toList = ([] : List UInt8) ∧ (rd_T45 l 0).f1 = 4
        · obtain ⟨e0, h4⟩ := hh
          rw [if_pos ⟨e0, h4⟩] at h
          have e1 : sg.toList.isEmpty = true := by rw [e0]; rfl
          have e2 : (sg.toList == ([] : List UInt8)) = true := by rw [e0]; rfl
          have e3 : ((rd_T45 l 0).f1 == 4) = true := by simpa using h4
          by_cases hgd : 0 ≤ (rd_T45 l 0).f0 ∧ (rd_T45 l 0).f0 ≤ 999999
          · rw [if_pos hgd] at h
            obtain ⟨g1, g2⟩ := hgd
            have HM := Aside0.mk h
            clear h H
            go_wp2_with (fail)
            go_region_held3 (fun w' => w'.cell? ⟨g, 0, none⟩ = some (.int .i64 (rd_T45 l 0).f0)) (first | assumption | go_keep) (fail)
            have HR5 := Aside0.mk (Kd.R_drew (co_new w1 (IntKind.i64.wrap ((rd_T45 l 0).f0.tdiv 100)) ((rd_T45 l 0).f0.tmod 100) w.heap.size HB.out.size))
            have HB5 := Aside0.mk (below_drew1 (below_alloc HB.out (.cells #[.int .i64 (IntKind.i64.wrap ((rd_T45 l 0).f0.tdiv 100)), .int .i64 2, .int .i64 ((rd_T45 l 0).f0.tmod 100), .int .i64 2] 45)))
            obtain ⟨l2, hl2⟩ : ∃ l2 : List S45, l2 = [⟨IntKind.i64.wrap ((rd_T45 l 0).f0.tdiv 100), 2⟩, ⟨(rd_T45 l 0).f0.tmod 100, 2⟩] := ⟨_, rfl⟩
            rw [← hl2] at HR5 HM
            have hlen : l2.length = 2 := by rw [hl2]; rfl
            obtain ⟨cap2, hc2⟩ : ∃ c : Nat, c = 2 := ⟨_, rfl⟩
            have hsl : Value.slice (some ⟨w1.heap.size, 0, none⟩) 2 2 = Value.slice (some ⟨w1.heap.size, 0, none⟩) l2.length cap2 := by rw [hlen, hc2]
            rw [hsl] at HR5 ⊢
            clear hsl hl2 hx0 hx1
            generalize (w1.alloc (.cells #[.int .i64 (IntKind.i64.wrap ((rd_T45 l 0).f0.tdiv 100)), .int .i64 2, .int .i64 ((rd_T45 l 0).f0.tmod 100), .int .i64 2] 45)).drew = wc at *
            generalize w1.heap.size = gx at *
            have hl : 0 < l2.length := by omega
            have qi : (0 < l2.length) = True := eq_true hl
            have e58 : (⟨#[58]⟩ : ByteArray).toList = ([58] : List UInt8) := by decide +kernel
            obtain ⟨ad, ead, hx0, hx1⟩ := at_T45 (Kd.R_reads' HR5.out).2.2 0 (by omega) (by omega)
            injection ead with ead
            subst ead
            rw [show (0 : Int).toNat * 2 = 0 from rfl, Addr.add_zero'] at hx0 hx1
            go_wp2_with (fail)
            have h := HM.out
            unfold coMid at h
            rw [if_pos (.inr (.inl e58)), if_pos hl] at h
            clear HM
            by_cases ho : (rd_T45 l2 0).f1 = 1 ∨ (rd_T45 l2 0).f1 = 2
            · rw [if_pos ho] at h
              have HE := Aside0.mk h
              clear h
              have X := clock_group_one.calls (rd_T45 l2 0).f0 (rd_T45 l2 0).f1 true wc (by unfold clock_group_one.f; rcases ho with q | q <;> simp [q])
              with_reducible refine X.mono ?_
              clear X
              rintro e w2 ⟨rfl, hb⟩
              have HR2 := Aside0.mk (Kd.R_below HR5.out hb)
              have HB2 := Aside0.mk (below_step HB5.out hb)
              clear hb
              obtain ⟨ad, ead, hy0, hy1⟩ := at_T45 (Kd.R_reads' HR2.out).2.2 0 (by omega) (by omega)
              injection ead with ead
              subst ead
              rw [show (0 : Int).toNat * 2 = 0 from rfl, Addr.add_zero'] at hy0 hy1
              have h := HE.out
              unfold coEnd at h
              by_cases hgd : 0 ≤ (rd_T45 l2 0).f0 ∧ (rd_T45 l2 0).f0 ≤ 999999 ∧ 0 < l2.length ∧ l2.length ≤ 1000000
              · rw [if_pos hgd] at h
                obtain ⟨g1, g2, g3, g4⟩ := hgd
                have H := Aside0.mk h
                clear h HE
                obtain ⟨res, hcl, h⟩ := Option.bind_eq_some_iff.mp H.out
                have HL := Aside0.mk hcl
                have HF := Aside0.mk h
                clear hcl h H
                have hcap := (co_lt HR2.out (by omega)).2
                by_cases hc1 : cap2 = 1
                · omega
                · have hc1b : (cap2 == 1) = false := by simpa using hc1
                  go_wp2_with (fail)
                  go_loopg [7, 8, 9, 85] l2.length (fun kq v7 v8 v9 v85 w' => ∃ (n u : Int) (mo : Bool) (i : Nat), v7 = .int .i64 n ∧ v8 = .int .i64 u ∧ v9 = .bool mo ∧ v85 = .int .i64 i ∧ Aside0 (CoInv l2 res w (.slice (some ⟨gx, 0, none⟩) l2.length cap2) kq n u mo i w'))
                  case atStart => exact ⟨_, _, _, 0, rfl, rfl, rfl, rfl, ⟨⟨by omega, by omega, by rw [List.drop_one]; exact HL.out, HR2.out, HB2.out⟩⟩⟩
                  case round =>
                    clear HL HR2 HB2
                    obtain ⟨n, u, mo, i, rfl, rfl, rfl, rfl, HI⟩ := hrel
                    obtain ⟨hi1, hi2, hA, hR, hB⟩ := HI.out
                    clear HI
                    cases gk with
                    | zero => omega
                    | succ k1 =>
                      by_cases hi : i + 1 < l2.length
                      · obtain ⟨ad, ead, hc0, hc1'⟩ := at_T45 (Kd.R_reads' hR).2.2 ((i : Int) + 1) (by omega) (by omega)
                        injection ead with ead
                        subst ead
                        rw [show ((i : Int) + 1).toNat * 2 = 2 + i * 2 by omega, Go.Proofs.YtecijnjnhdjokaaW.PrintWords.add_plain] at hc0 hc1'
                        have hgs := (co_lt hR (by omega)).1
                        have hne1 : gx ≠ wr.heap.size := by omega
                        have hne2 : wr.heap.size ≠ gx := by omega
                        have hix : decide ((i : Int) < ((l2.length - 1 : Nat) : Int)) = true := decide_eq_true (by omega)
                        have HR3 := Aside0.mk hR
                        have HB3 := Aside0.mk hB
                        have HA3 := Aside0.mk hA
                        clear hR hB hA
                        go_wp2_with (fail)
                        have hdr : l2.drop (i + 1) = rd_T45 l2 ((i : Int) + 1) :: l2.drop (i + 2) := by
                          rw [List.drop_eq_getElem_cons (by omega)]
                          congr 1
                          unfold rd_T45
                          rw [show ((i : Int) + 1).toNat = i + 1 by omega, List.getD_eq_getElem?_getD, List.getElem?_eq_getElem (by omega)]
                          rfl
                        have hA := HA3.out
                        rw [hdr] at hA
                        generalize rd_T45 l2 ((i : Int) + 1) = q at hA hc0 hc1'
                        simp only [coLoop] at hA
                        by_cases h2 : q.f1 = 2
                        · rw [if_pos h2] at hA
                          by_cases hgd : (0 ≤ q.f0 ∧ q.f0 ≤ 999999) ∧ (0 ≤ n ∧ n ≤ 100000000000) ∧ 0 ≤ u ∧ u ≤ 60
                          · rw [if_pos hgd] at hA
                            obtain ⟨⟨p1, p2⟩, ⟨p3, p4⟩, p5, p6⟩ := hgd
                            have HA4 := Aside0.mk hA
                            clear hA HA3 hdr
                            have X := clock_group_two.calls q.f0 q.f1 true (wr.alloc (.cells #[.int .i64 q.f0, .int .i64 q.f1] 45)) (by unfold clock_group_two.f; rw [h2]; rfl)
                            with_reducible refine X.mono ?_
                            clear X
                            rintro e w3 ⟨rfl, hb⟩
                            have hbx := blk_below (blk_new wr (.cells #[.int .i64 q.f0, .int .i64 q.f1] 45)) hb
                            have hb0 : w3.cell? ⟨wr.heap.size, 0, none⟩ = some (.int .i64 q.f0) := (blk_cell hbx 0).trans rfl
                            have HR4 := Aside0.mk (Kd.R_below (Kd.R_alloc HR3.out _) hb)
                            have HB4 := Aside0.mk (below_step (below_alloc HB3.out _) hb)
                            have hmul1 : 0 ≤ q.f0 * u := Int.mul_nonneg p1 p5
                            have hmul2 : q.f0 * u ≤ 999999 * 60 := Int.le_trans (Int.mul_le_mul_of_nonneg_right p2 p5) (Int.mul_le_mul_of_nonneg_left p6 (by decide))
                            clear hb hbx
                            cases mo with
                            | true =>
                              go_wp2_with (fail)
                              go_roundg k1
                              case measure => omega
                              case rel => exact ⟨_, _, _, i + 1, rfl, rfl, rfl, by rw [Int.natCast_add]; rfl, ⟨⟨by omega, by omega, HA4.out, HR4.out, HB4.out⟩⟩⟩
                            | false =>
                              by_cases h59 : 59 < q.f0
                              · have e7 : decide (59 < q.f0) = true := decide_eq_true h59
                                have hA := HA4.out
                                rw [e7, Bool.or_true] at hA
                                have HA5 := Aside0.mk hA
                                clear hA HA4
                                go_wp2_with (fail)
                                go_roundg k1
                                case measure => omega
                                case rel => exact ⟨_, _, _, i + 1, rfl, rfl, rfl, by rw [Int.natCast_add]; rfl, ⟨⟨by omega, by omega, HA5.out, HR4.out, HB4.out⟩⟩⟩
                              · have e7 : decide (59 < q.f0) = false := decide_eq_false h59
                                have hA := HA4.out
                                rw [e7, Bool.or_false] at hA
                                have HA5 := Aside0.mk hA
                                clear hA HA4
                                go_wp2_with (fail)
                                go_roundg k1
                                case measure => omega
                                case rel => exact ⟨_, _, _, i + 1, rfl, rfl, rfl, by rw [Int.natCast_add]; rfl, ⟨⟨by omega, by omega, HA5.out, HR4.out, HB4.out⟩⟩⟩
                          · rw [if_neg hgd] at hA; cases hA
                        · rw [if_neg h2] at hA
                          obtain rfl := Option.some.inj hA
                          have h := HF.out
                          obtain ⟨N1, N2⟩ := Prod.mk.inj (Option.some.inj h)
                          subst N1 N2
                          clear h hA HF HA3 hdr
                          have X := clock_group_two.calls q.f0 q.f1 false (wr.alloc (.cells #[.int .i64 q.f0, .int .i64 q.f1] 45)) (by unfold clock_group_two.f; simpa using h2)
                          with_reducible refine X.mono ?_
                          clear X
                          rintro e w3 ⟨rfl, hb⟩
                          have HB4 := Aside0.mk (below_step (below_alloc HB3.out _) hb)
                          clear hb
                          go_wp2_with (fail)
                          go_ret2
                          exact ⟨rfl, HB4.out⟩
                      · have hii := hi
                        have hix : decide ((i : Int) < ((l2.length - 1 : Nat) : Int)) = false := decide_eq_false (by omega)
                        have hd0 : l2.drop (i + 1) = [] := List.drop_eq_nil_of_le (by omega)
                        rw [hd0] at hA
                        simp only [coLoop] at hA
                        obtain rfl := Option.some.inj hA
                        have h := HF.out
                        simp only at h
                        have HB9 := Aside0.mk hB
                        clear hA hd0 HF hR hB
                        by_cases hn0 : 0 ≤ n
                        · rw [if_pos hn0] at h
                          cases mo with
                          | true =>
                            rw [if_pos rfl] at h
                            obtain ⟨N1, N2⟩ := Prod.mk.inj (Option.some.inj h)
                            subst N1 N2
                            clear h
                            go_wp2_with (fail)
                            go_ret2
                            exact ⟨by first | rfl | simp, HB9.out⟩
                          | false =>
                            rw [if_neg Bool.false_ne_true] at h
                            by_cases hn1 : 57599 < n
                            · have e9 : decide (57599 < n) = true := decide_eq_true hn1
                              rw [if_pos hn1] at h
                              obtain ⟨N1, N2⟩ := Prod.mk.inj (Option.some.inj h)
                              subst N1 N2
                              clear h
                              go_wp2_with (fail)
                              go_ret2
                              exact ⟨by first | rfl | simp, HB9.out⟩
                            · have e9 : decide (57599 < n) = false := decide_eq_false hn1
                              rw [if_neg hn1] at h
                              by_cases hm : bt a0 0 = 45
                              · have e8 : (bt a0 0 == 45) = true := by simpa using hm
                                rw [if_pos hm] at h
                                obtain ⟨N1, N2⟩ := Prod.mk.inj (Option.some.inj h)
                                subst N1 N2
                                clear h
                                go_wp2_with (fail)
                                go_ret2
                                exact ⟨by first | rfl | simp, HB9.out⟩
                              · have e8 : (bt a0 0 == 45) = false := by simpa using hm
                                rw [if_neg hm] at h
                                obtain ⟨N1, N2⟩ := Prod.mk.inj (Option.some.inj h)
                                subst N1 N2
                                clear h
                                go_wp2_with (fail)
                                go_ret2
                                exact ⟨by first | rfl | simp, HB9.out⟩
                        · rw [if_neg hn0] at h; cases h
              · rw [if_neg hgd] at h; cases h
            · rw [if_neg ho] at h
              obtain ⟨N1, N2⟩ := Prod.mk.inj (Option.some.inj h)
              subst N1 N2
              clear h
              have X := clock_group_one.calls (rd_T45 l2 0).f0 (rd_T45 l2 0).f1 false wc (by unfold clock_group_one.f; rw [if_neg (fun q => ho (.inl q))]; simp; exact fun q => ho (.inr q))
              with_reducible refine X.mono ?_
              clear X
              rintro e w2 ⟨rfl, hb⟩
              have HB2 := Aside0.mk (below_step HB5.out hb)
              clear hb
              go_wp2_with (fail)
              go_ret2
              exact ⟨rfl, HB2.out⟩
          · rw [if_neg hgd] at h; cases h
        · rw [if_neg hh] at h
          have HM := Aside0.mk h
          clear h H
          by_cases e0 : sg.toList = ([] : List UInt8)
          · have e1 : sg.toList.isEmpty = true := by rw [e0]; rfl
            have e2 : (sg.toList == ([] : List UInt8)) = true := by rw [e0]; rfl
            have e3 : ((rd_T45 l 0).f1 == 4) = false := by simp; exact fun q => hh ⟨e0, q⟩
            go_wp2_with (fail)
            have h := HM.out
            unfold coMid at h
            rw [if_pos (.inl e0), if_pos hl] at h
            clear HM
            by_cases ho : (rd_T45 l 0).f1 = 1 ∨ (rd_T45 l 0).f1 = 2
            · rw [if_pos ho] at h
              have HE := Aside0.mk h
              clear h
              have X := clock_group_one.calls (rd_T45 l 0).f0 (rd_T45 l 0).f1 true w1 (by unfold clock_group_one.f; rcases ho with q | q <;> simp [q])
              with_reducible refine X.mono ?_
              clear X
              rintro e w2 ⟨rfl, hb⟩
              have HR2 := Aside0.mk (Kd.R_below HR.out hb)
              have HB2 := Aside0.mk (below_step HB.out hb)
              clear hb
              obtain ⟨ad, ead, hy0, hy1⟩ := at_T45 (Kd.R_reads' HR2.out).2.2 0 (by omega) (by omega)
              injection ead with ead
              subst ead
              rw [show (0 : Int).toNat * 2 = 0 from rfl, Addr.add_zero'] at hy0 hy1
              have h := HE.out
              unfold coEnd at h
              by_cases hgd : 0 ≤ (rd_T45 l 0).f0 ∧ (rd_T45 l 0).f0 ≤ 999999 ∧ 0 < l.length ∧ l.length ≤ 1000000
              · rw [if_pos hgd] at h
                obtain ⟨g1, g2, g3, g4⟩ := hgd
                have H := Aside0.mk h
                clear h HE
                obtain ⟨res, hcl, h⟩ := Option.bind_eq_some_iff.mp H.out
                have HL := Aside0.mk hcl
                have HF := Aside0.mk h
                clear hcl h H
                have hcap := (co_lt HR2.out (by omega)).2
                by_cases hc1 : cap = 1
                · subst hc1
                  go_wp2_with (fail)
                  go_loopg [7, 8, 9, 85] l.length (fun kq v7 v8 v9 v85 w' => ∃ (n u : Int) (mo : Bool) (i : Nat), v7 = .int .i64 n ∧ v8 = .int .i64 u ∧ v9 = .bool mo ∧ v85 = .int .i64 i ∧ Aside0 (CoInv l res w (.slice (some ⟨g, 0, none⟩) l.length 1) kq n u mo i w'))
                  case atStart => exact ⟨_, _, _, 0, rfl, rfl, rfl, rfl, ⟨⟨by omega, by omega, by rw [List.drop_one]; exact HL.out, HR2.out, HB2.out⟩⟩⟩
                  case round =>
                    clear HL HR2 HB2
                    obtain ⟨n, u, mo, i, rfl, rfl, rfl, rfl, HI⟩ := hrel
                    obtain ⟨hi1, hi2, hA, hR, hB⟩ := HI.out
                    clear HI
                    cases gk with
                    | zero => omega
                    | succ k1 =>
                      have hix : decide ((i : Int) < ((l.length - 1 : Nat) : Int)) = false := decide_eq_false (by omega)
                      have hd0 : l.drop (i + 1) = [] := List.drop_eq_nil_of_le (by omega)
                      rw [hd0] at hA
                      simp only [coLoop] at hA
                      obtain rfl := Option.some.inj hA
                      have h := HF.out
                      simp only at h
                      have HB9 := Aside0.mk hB
                      clear hA hd0 HF hR hB
                      by_cases hn0 : 0 ≤ n
                      · rw [if_pos hn0] at h
                        cases mo with
                        | true =>
                          rw [if_pos rfl] at h
                          obtain ⟨N1, N2⟩ := Prod.mk.inj (Option.some.inj h)
                          subst N1 N2
                          clear h
                          go_wp2_with (fail)
                          go_ret2
                          exact ⟨by first | rfl | simp, HB9.out⟩
                        | false =>
                          rw [if_neg Bool.false_ne_true] at h
                          by_cases hn1 : 57599 < n
                          · have e9 : decide (57599 < n) = true := decide_eq_true hn1
                            rw [if_pos hn1] at h
                            obtain ⟨N1, N2⟩ := Prod.mk.inj (Option.some.inj h)
                            subst N1 N2
                            clear h
                            go_wp2_with (fail)
                            go_ret2
                            exact ⟨by first | rfl | simp, HB9.out⟩
                          · have e9 : decide (57599 < n) = false := decide_eq_false hn1
                            rw [if_neg hn1] at h
                            by_cases hm : bt a0 0 = 45
                            · have e8 : (bt a0 0 == 45) = true := by simpa using hm
                              rw [if_pos hm] at h
                              obtain ⟨N1, N2⟩ := Prod.mk.inj (Option.some.inj h)
                              subst N1 N2
                              clear h
                              go_wp2_with (fail)
                              go_ret2
                              exact ⟨by first | rfl | simp, HB9.out⟩
                            · have e8 : (bt a0 0 == 45) = false := by simpa using hm
                              rw [if_neg hm] at h
                              obtain ⟨N1, N2⟩ := Prod.mk.inj (Option.some.inj h)
                              subst N1 N2
                              clear h
                              go_wp2_with (fail)
                              go_ret2
                              exact ⟨by first | rfl | simp, HB9.out⟩
                      · rw [if_neg hn0] at h; cases h
                · have hc1b : (cap == 1) = false := by simpa using hc1
                  go_wp2_with (fail)
                  go_loopg [7, 8, 9, 85] l.length (fun kq v7 v8 v9 v85 w' => ∃ (n u : Int) (mo : Bool) (i : Nat), v7 = .int .i64 n ∧ v8 = .int .i64 u ∧ v9 = .bool mo ∧ v85 = .int .i64 i ∧ Aside0 (CoInv l res w (.slice (some ⟨g, 0, none⟩) l.length cap) kq n u mo i w'))
                  case atStart => exact ⟨_, _, _, 0, rfl, rfl, rfl, rfl, ⟨⟨by omega, by omega, by rw [List.drop_one]; exact HL.out, HR2.out, HB2.out⟩⟩⟩
                  case round =>
                    clear HL HR2 HB2
                    obtain ⟨n, u, mo, i, rfl, rfl, rfl, rfl, HI⟩ := hrel
                    obtain ⟨hi1, hi2, hA, hR, hB⟩ := HI.out
                    clear HI
                    cases gk with
                    | zero => omega
                    | succ k1 =>
                      by_cases hi : i + 1 < l.length
                      · obtain ⟨ad, ead, hc0, hc1'⟩ := at_T45 (Kd.R_reads' hR).2.2 ((i : Int) + 1) (by omega) (by omega)
                        injection ead with ead
                        subst ead
                        rw [show ((i : Int) + 1).toNat * 2 = 2 + i * 2 by omega, Go.Proofs.YtecijnjnhdjokaaW.PrintWords.add_plain] at hc0 hc1'
                        have hgs := (co_lt hR (by omega)).1
                        have hne1 : g ≠ wr.heap.size := by omega
                        have hne2 : wr.heap.size ≠ g := by omega
                        have hix : decide ((i : Int) < ((l.length - 1 : Nat) : Int)) = true := decide_eq_true (by omega)
                        have HR3 := Aside0.mk hR
                        have HB3 := Aside0.mk hB
                        have HA3 := Aside0.mk hA
                        clear hR hB hA
                        go_wp2_with (fail)
                        have hdr : l.drop (i + 1) = rd_T45 l ((i : Int) + 1) :: l.drop (i + 2) := by
                          rw [List.drop_eq_getElem_cons (by omega)]
                          congr 1
                          unfold rd_T45
                          rw [show ((i : Int) + 1).toNat = i + 1 by omega, List.getD_eq_getElem?_getD, List.getElem?_eq_getElem (by omega)]
                          rfl
                        have hA := HA3.out
                        rw [hdr] at hA
                        generalize rd_T45 l ((i : Int) + 1) = q at hA hc0 hc1'
                        simp only [coLoop] at hA
                        by_cases h2 : q.f1 = 2
                        · rw [if_pos h2] at hA
                          by_cases hgd : (0 ≤ q.f0 ∧ q.f0 ≤ 999999) ∧ (0 ≤ n ∧ n ≤ 100000000000) ∧ 0 ≤ u ∧ u ≤ 60
                          · rw [if_pos hgd] at hA
                            obtain ⟨⟨p1, p2⟩, ⟨p3, p4⟩, p5, p6⟩ := hgd
                            have HA4 := Aside0.mk hA
                            clear hA HA3 hdr
                            have X := clock_group_two.calls q.f0 q.f1 true (wr.alloc (.cells #[.int .i64 q.f0, .int .i64 q.f1] 45)) (by unfold clock_group_two.f; rw [h2]; rfl)
                            with_reducible refine X.mono ?_
                            clear X
                            rintro e w3 ⟨rfl, hb⟩
                            have hbx := blk_below (blk_new wr (.cells #[.int .i64 q.f0, .int .i64 q.f1] 45)) hb
                            have hb0 : w3.cell? ⟨wr.heap.size, 0, none⟩ = some (.int .i64 q.f0) := (blk_cell hbx 0).trans rfl
                            have HR4 := Aside0.mk (Kd.R_below (Kd.R_alloc HR3.out _) hb)
                            have HB4 := Aside0.mk (below_step (below_alloc HB3.out _) hb)
                            have hmul1 : 0 ≤ q.f0 * u := Int.mul_nonneg p1 p5
                            have hmul2 : q.f0 * u ≤ 999999 * 60 := Int.le_trans (Int.mul_le_mul_of_nonneg_right p2 p5) (Int.mul_le_mul_of_nonneg_left p6 (by decide))
                            clear hb hbx
                            cases mo with
                            | true =>
                              go_wp2_with (fail)
                              go_roundg k1
                              case measure => omega
                              case rel => exact ⟨_, _, _, i + 1, rfl, rfl, rfl, by rw [Int.natCast_add]; rfl, ⟨⟨by omega, by omega, HA4.out, HR4.out, HB4.out⟩⟩⟩
                            | false =>
                              by_cases h59 : 59 < q.f0
                              · have e7 : decide (59 < q.f0) = true := decide_eq_true h59
                                have hA := HA4.out
                                rw [e7, Bool.or_true] at hA
                                have HA5 := Aside0.mk hA
                                clear hA HA4
                                go_wp2_with (fail)
                                go_roundg k1
                                case measure => omega
                                case rel => exact ⟨_, _, _, i + 1, rfl, rfl, rfl, by rw [Int.natCast_add]; rfl, ⟨⟨by omega, by omega, HA5.out, HR4.out, HB4.out⟩⟩⟩
                              · have e7 : decide (59 < q.f0) = false := decide_eq_false h59
                                have hA := HA4.out
                                rw [e7, Bool.or_false] at hA
                                have HA5 := Aside0.mk hA
                                clear hA HA4
                                go_wp2_with (fail)
                                go_roundg k1
                                case measure => omega
                                case rel => exact ⟨_, _, _, i + 1, rfl, rfl, rfl, by rw [Int.natCast_add]; rfl, ⟨⟨by omega, by omega, HA5.out, HR4.out, HB4.out⟩⟩⟩
                          · rw [if_neg hgd] at hA; cases hA
                        · rw [if_neg h2] at hA
                          obtain rfl := Option.some.inj hA
                          have h := HF.out
                          obtain ⟨N1, N2⟩ := Prod.mk.inj (Option.some.inj h)
                          subst N1 N2
                          clear h hA HF HA3 hdr
                          have X := clock_group_two.calls q.f0 q.f1 false (wr.alloc (.cells #[.int .i64 q.f0, .int .i64 q.f1] 45)) (by unfold clock_group_two.f; simpa using h2)
                          with_reducible refine X.mono ?_
                          clear X
                          rintro e w3 ⟨rfl, hb⟩
                          have HB4 := Aside0.mk (below_step (below_alloc HB3.out _) hb)
                          clear hb
                          go_wp2_with (fail)
                          go_ret2
                          exact ⟨rfl, HB4.out⟩
                      · have hii := hi
                        have hix : decide ((i : Int) < ((l.length - 1 : Nat) : Int)) = false := decide_eq_false (by omega)
                        have hd0 : l.drop (i + 1) = [] := List.drop_eq_nil_of_le (by omega)
                        rw [hd0] at hA
                        simp only [coLoop] at hA
                        obtain rfl := Option.some.inj hA
                        have h := HF.out
                        simp only at h
                        have HB9 := Aside0.mk hB
                        clear hA hd0 HF hR hB
                        by_cases hn0 : 0 ≤ n
                        · rw [if_pos hn0] at h
                          cases mo with
                          | true =>
                            rw [if_pos rfl] at h
                            obtain ⟨N1, N2⟩ := Prod.mk.inj (Option.some.inj h)
                            subst N1 N2
                            clear h
                            go_wp2_with (fail)
                            go_ret2
                            exact ⟨by first | rfl | simp, HB9.out⟩
                          | false =>
                            rw [if_neg Bool.false_ne_true] at h
                            by_cases hn1 : 57599 < n
                            · have e9 : decide (57599 < n) = true := decide_eq_true hn1
                              rw [if_pos hn1] at h
                              obtain ⟨N1, N2⟩ := Prod.mk.inj (Option.some.inj h)
                              subst N1 N2
                              clear h
                              go_wp2_with (fail)
                              go_ret2
                              exact ⟨by first | rfl | simp, HB9.out⟩
                            · have e9 : decide (57599 < n) = false := decide_eq_false hn1
                              rw [if_neg hn1] at h
                              by_cases hm : bt a0 0 = 45
                              · have e8 : (bt a0 0 == 45) = true := by simpa using hm
                                rw [if_pos hm] at h
                                obtain ⟨N1, N2⟩ := Prod.mk.inj (Option.some.inj h)
                                subst N1 N2
                                clear h
                                go_wp2_with (fail)
                                go_ret2
                                exact ⟨by first | rfl | simp, HB9.out⟩
                              · have e8 : (bt a0 0 == 45) = false := by simpa using hm
                                rw [if_neg hm] at h
                                obtain ⟨N1, N2⟩ := Prod.mk.inj (Option.some.inj h)
                                subst N1 N2
                                clear h
                                go_wp2_with (fail)
                                go_ret2
                                exact ⟨by first | rfl | simp, HB9.out⟩
                        · rw [if_neg hn0] at h; cases h
              · rw [if_neg hgd] at h; cases h
            · rw [if_neg ho] at h
              obtain ⟨N1, N2⟩ := Prod.mk.inj (Option.some.inj h)
              subst N1 N2
              clear h
              have X := clock_group_one.calls (rd_T45 l 0).f0 (rd_T45 l 0).f1 false w1 (by unfold clock_group_one.f; rw [if_neg (fun q => ho (.inl q))]; simp; exact fun q => ho (.inr q))
              with_reducible refine X.mono ?_
              clear X
              rintro e w2 ⟨rfl, hb⟩
              have HB2 := Aside0.mk (below_step HB.out hb)
              clear hb
              go_wp2_with (fail)
              go_ret2
              exact ⟨rfl, HB2.out⟩
          · have e1 : sg.toList.isEmpty = false := by simpa using e0
            have e2 : (sg.toList == ([] : List UInt8)) = false := by simpa using e0
            have e2n : (sg.toList != ([] : List UInt8)) = true := by simpa using e0
            by_cases e4 : sg.toList = ([58] : List UInt8)
            · have e5 : (sg.toList == ([58] : List UInt8)) = true := by simpa using e4
              have e5n : (sg.toList != ([58] : List UInt8)) = false := by simpa using e4
              go_wp2_with (fail)
              have h := HM.out
              unfold coMid at h
              rw [if_pos (.inr (.inl e4)), if_pos hl] at h
              clear HM
              by_cases ho : (rd_T45 l 0).f1 = 1 ∨ (rd_T45 l 0).f1 = 2
              · rw [if_pos ho] at h
                have HE := Aside0.mk h
                clear h
                have X := clock_group_one.calls (rd_T45 l 0).f0 (rd_T45 l 0).f1 true w1 (by unfold clock_group_one.f; rcases ho with q | q <;> simp [q])
                with_reducible refine X.mono ?_
                clear X
                rintro e w2 ⟨rfl, hb⟩
                have HR2 := Aside0.mk (Kd.R_below HR.out hb)
                have HB2 := Aside0.mk (below_step HB.out hb)
                clear hb
                obtain ⟨ad, ead, hy0, hy1⟩ := at_T45 (Kd.R_reads' HR2.out).2.2 0 (by omega) (by omega)
                injection ead with ead
                subst ead
                rw [show (0 : Int).toNat * 2 = 0 from rfl, Addr.add_zero'] at hy0 hy1
                have h := HE.out
                unfold coEnd at h
                by_cases hgd : 0 ≤ (rd_T45 l 0).f0 ∧ (rd_T45 l 0).f0 ≤ 999999 ∧ 0 < l.length ∧ l.length ≤ 1000000
                · rw [if_pos hgd] at h
                  obtain ⟨g1, g2, g3, g4⟩ := hgd
                  have H := Aside0.mk h
                  clear h HE
                  obtain ⟨res, hcl, h⟩ := Option.bind_eq_some_iff.mp H.out
                  have HL := Aside0.mk hcl
                  have HF := Aside0.mk h
                  clear hcl h H
                  have hcap := (co_lt HR2.out (by omega)).2
                  by_cases hc1 : cap = 1
                  · subst hc1
                    go_wp2_with (fail)
                    go_loopg [7, 8, 9, 85] l.length (fun kq v7 v8 v9 v85 w' => ∃ (n u : Int) (mo : Bool) (i : Nat), v7 = .int .i64 n ∧ v8 = .int .i64 u ∧ v9 = .bool mo ∧ v85 = .int .i64 i ∧ Aside0 (CoInv l res w (.slice (some ⟨g, 0, none⟩) l.length 1) kq n u mo i w'))
                    case atStart => exact ⟨_, _, _, 0, rfl, rfl, rfl, rfl, ⟨⟨by omega, by omega, by rw [List.drop_one]; exact HL.out, HR2.out, HB2.out⟩⟩⟩
                    case round =>
                      clear HL HR2 HB2
                      obtain ⟨n, u, mo, i, rfl, rfl, rfl, rfl, HI⟩ := hrel
                      obtain ⟨hi1, hi2, hA, hR, hB⟩ := HI.out
                      clear HI
                      cases gk with
                      | zero => omega
                      | succ k1 =>
                        have hix : decide ((i : Int) < ((l.length - 1 : Nat) : Int)) = false := decide_eq_false (by omega)
                        have hd0 : l.drop (i + 1) = [] := List.drop_eq_nil_of_le (by omega)
                        rw [hd0] at hA
                        simp only [coLoop] at hA
                        obtain rfl := Option.some.inj hA
                        have h := HF.out
                        simp only at h
                        have HB9 := Aside0.mk hB
                        clear hA hd0 HF hR hB
                        by_cases hn0 : 0 ≤ n
                        · rw [if_pos hn0] at h
                          cases mo with
                          | true =>
                            rw [if_pos rfl] at h
                            obtain ⟨N1, N2⟩ := Prod.mk.inj (Option.some.inj h)
                            subst N1 N2
                            clear h
                            go_wp2_with (fail)
                            go_ret2
                            exact ⟨by first | rfl | simp, HB9.out⟩
                          | false =>
                            rw [if_neg Bool.false_ne_true] at h
                            by_cases hn1 : 57599 < n
                            · have e9 : decide (57599 < n) = true := decide_eq_true hn1
                              rw [if_pos hn1] at h
                              obtain ⟨N1, N2⟩ := Prod.mk.inj (Option.some.inj h)
                              subst N1 N2
                              clear h
                              go_wp2_with (fail)
                              go_ret2
                              exact ⟨by first | rfl | simp, HB9.out⟩
                            · have e9 : decide (57599 < n) = false := decide_eq_false hn1
                              rw [if_neg hn1] at h
                              by_cases hm : bt a0 0 = 45
                              · have e8 : (bt a0 0 == 45) = true := by simpa using hm
                                rw [if_pos hm] at h
                                obtain ⟨N1, N2⟩ := Prod.mk.inj (Option.some.inj h)
                                subst N1 N2
                                clear h
                                go_wp2_with (fail)
                                go_ret2
                                exact ⟨by first | rfl | simp, HB9.out⟩
                              · have e8 : (bt a0 0 == 45) = false := by simpa using hm
                                rw [if_neg hm] at h
                                obtain ⟨N1, N2⟩ := Prod.mk.inj (Option.some.inj h)
                                subst N1 N2
                                clear h
                                go_wp2_with (fail)
                                go_ret2
                                exact ⟨by first | rfl | simp, HB9.out⟩
                        · rw [if_neg hn0] at h; cases h
                  · have hc1b : (cap == 1) = false := by simpa using hc1
                    go_wp2_with (fail)
                    go_loopg [7, 8, 9, 85] l.length (fun kq v7 v8 v9 v85 w' => ∃ (n u : Int) (mo : Bool) (i : Nat), v7 = .int .i64 n ∧ v8 = .int .i64 u ∧ v9 = .bool mo ∧ v85 = .int .i64 i ∧ Aside0 (CoInv l res w (.slice (some ⟨g, 0, none⟩) l.length cap) kq n u mo i w'))
                    case atStart => exact ⟨_, _, _, 0, rfl, rfl, rfl, rfl, ⟨⟨by omega, by omega, by rw [List.drop_one]; exact HL.out, HR2.out, HB2.out⟩⟩⟩
                    case round =>
                      clear HL HR2 HB2
                      obtain ⟨n, u, mo, i, rfl, rfl, rfl, rfl, HI⟩ := hrel
                      obtain ⟨hi1, hi2, hA, hR, hB⟩ := HI.out
                      clear HI
                      cases gk with
                      | zero => omega
                      | succ k1 =>
                        by_cases hi : i + 1 < l.length
                        · obtain ⟨ad, ead, hc0, hc1'⟩ := at_T45 (Kd.R_reads' hR).2.2 ((i : Int) + 1) (by omega) (by omega)
                          injection ead with ead
                          subst ead
                          rw [show ((i : Int) + 1).toNat * 2 = 2 + i * 2 by omega, Go.Proofs.YtecijnjnhdjokaaW.PrintWords.add_plain] at hc0 hc1'
                          have hgs := (co_lt hR (by omega)).1
                          have hne1 : g ≠ wr.heap.size := by omega
                          have hne2 : wr.heap.size ≠ g := by omega
                          have hix : decide ((i : Int) < ((l.length - 1 : Nat) : Int)) = true := decide_eq_true (by omega)
                          have HR3 := Aside0.mk hR
                          have HB3 := Aside0.mk hB
                          have HA3 := Aside0.mk hA
                          clear hR hB hA
                          go_wp2_with (fail)
                          have hdr : l.drop (i + 1) = rd_T45 l ((i : Int) + 1) :: l.drop (i + 2) := by
                            rw [List.drop_eq_getElem_cons (by omega)]
                            congr 1
                            unfold rd_T45
                            rw [show ((i : Int) + 1).toNat = i + 1 by omega, List.getD_eq_getElem?_getD, List.getElem?_eq_getElem (by omega)]
                            rfl
                          have hA := HA3.out
                          rw [hdr] at hA
                          generalize rd_T45 l ((i : Int) + 1) = q at hA hc0 hc1'
                          simp only [coLoop] at hA
                          by_cases h2 : q.f1 = 2
                          · rw [if_pos h2] at hA
                            by_cases hgd : (0 ≤ q.f0 ∧ q.f0 ≤ 999999) ∧ (0 ≤ n ∧ n ≤ 100000000000) ∧ 0 ≤ u ∧ u ≤ 60
                            · rw [if_pos hgd] at hA
                              obtain ⟨⟨p1, p2⟩, ⟨p3, p4⟩, p5, p6⟩ := hgd
                              have HA4 := Aside0.mk hA
                              clear hA HA3 hdr
                              have X := clock_group_two.calls q.f0 q.f1 true (wr.alloc (.cells #[.int .i64 q.f0, .int .i64 q.f1] 45)) (by unfold clock_group_two.f; rw [h2]; rfl)
                              with_reducible refine X.mono ?_
                              clear X
                              rintro e w3 ⟨rfl, hb⟩
                              have hbx := blk_below (blk_new wr (.cells #[.int .i64 q.f0, .int .i64 q.f1] 45)) hb
                              have hb0 : w3.cell? ⟨wr.heap.size, 0, none⟩ = some (.int .i64 q.f0) := (blk_cell hbx 0).trans rfl
                              have HR4 := Aside0.mk (Kd.R_below (Kd.R_alloc HR3.out _) hb)
                              have HB4 := Aside0.mk (below_step (below_alloc HB3.out _) hb)
                              have hmul1 : 0 ≤ q.f0 * u := Int.mul_nonneg p1 p5
                              have hmul2 : q.f0 * u ≤ 999999 * 60 := Int.le_trans (Int.mul_le_mul_of_nonneg_right p2 p5) (Int.mul_le_mul_of_nonneg_left p6 (by decide))
                              clear hb hbx
                              cases mo with
                              | true =>
                                go_wp2_with (fail)
                                go_roundg k1
                                case measure => omega
                                case rel => exact ⟨_, _, _, i + 1, rfl, rfl, rfl, by rw [Int.natCast_add]; rfl, ⟨⟨by omega, by omega, HA4.out, HR4.out, HB4.out⟩⟩⟩
                              | false =>
                                by_cases h59 : 59 < q.f0
                                · have e7 : decide (59 < q.f0) = true := decide_eq_true h59
                                  have hA := HA4.out
                                  rw [e7, Bool.or_true] at hA
                                  have HA5 := Aside0.mk hA
                                  clear hA HA4
                                  go_wp2_with (fail)
                                  go_roundg k1
                                  case measure => omega
                                  case rel => exact ⟨_, _, _, i + 1, rfl, rfl, rfl, by rw [Int.natCast_add]; rfl, ⟨⟨by omega, by omega, HA5.out, HR4.out, HB4.out⟩⟩⟩
                                · have e7 : decide (59 < q.f0) = false := decide_eq_false h59
                                  have hA := HA4.out
                                  rw [e7, Bool.or_false] at hA
                                  have HA5 := Aside0.mk hA
                                  clear hA HA4
                                  go_wp2_with (fail)
                                  go_roundg k1
                                  case measure => omega
                                  case rel => exact ⟨_, _, _, i + 1, rfl, rfl, rfl, by rw [Int.natCast_add]; rfl, ⟨⟨by omega, by omega, HA5.out, HR4.out, HB4.out⟩⟩⟩
                            · rw [if_neg hgd] at hA; cases hA
                          · rw [if_neg h2] at hA
                            obtain rfl := Option.some.inj hA
                            have h := HF.out
                            obtain ⟨N1, N2⟩ := Prod.mk.inj (Option.some.inj h)
                            subst N1 N2
                            clear h hA HF HA3 hdr
                            have X := clock_group_two.calls q.f0 q.f1 false (wr.alloc (.cells #[.int .i64 q.f0, .int .i64 q.f1] 45)) (by unfold clock_group_two.f; simpa using h2)
                            with_reducible refine X.mono ?_
                            clear X
                            rintro e w3 ⟨rfl, hb⟩
                            have HB4 := Aside0.mk (below_step (below_alloc HB3.out _) hb)
                            clear hb
                            go_wp2_with (fail)
                            go_ret2
                            exact ⟨rfl, HB4.out⟩
                        · have hii := hi
                          have hix : decide ((i : Int) < ((l.length - 1 : Nat) : Int)) = false := decide_eq_false (by omega)
                          have hd0 : l.drop (i + 1) = [] := List.drop_eq_nil_of_le (by omega)
                          rw [hd0] at hA
                          simp only [coLoop] at hA
                          obtain rfl := Option.some.inj hA
                          have h := HF.out
                          simp only at h
                          have HB9 := Aside0.mk hB
                          clear hA hd0 HF hR hB
                          by_cases hn0 : 0 ≤ n
                          · rw [if_pos hn0] at h
                            cases mo with
                            | true =>
                              rw [if_pos rfl] at h
                              obtain ⟨N1, N2⟩ := Prod.mk.inj (Option.some.inj h)
                              subst N1 N2
                              clear h
                              go_wp2_with (fail)
                              go_ret2
                              exact ⟨by first | rfl | simp, HB9.out⟩
                            | false =>
                              rw [if_neg Bool.false_ne_true] at h
                              by_cases hn1 : 57599 < n
                              · have e9 : decide (57599 < n) = true := decide_eq_true hn1
                                rw [if_pos hn1] at h
                                obtain ⟨N1, N2⟩ := Prod.mk.inj (Option.some.inj h)
                                subst N1 N2
                                clear h
                                go_wp2_with (fail)
                                go_ret2
                                exact ⟨by first | rfl | simp, HB9.out⟩
                              · have e9 : decide (57599 < n) = false := decide_eq_false hn1
                                rw [if_neg hn1] at h
                                by_cases hm : bt a0 0 = 45
                                · have e8 : (bt a0 0 == 45) = true := by simpa using hm
                                  rw [if_pos hm] at h
                                  obtain ⟨N1, N2⟩ := Prod.mk.inj (Option.some.inj h)
                                  subst N1 N2
                                  clear h
                                  go_wp2_with (fail)
                                  go_ret2
                                  exact ⟨by first | rfl | simp, HB9.out⟩
                                · have e8 : (bt a0 0 == 45) = false := by simpa using hm
                                  rw [if_neg hm] at h
                                  obtain ⟨N1, N2⟩ := Prod.mk.inj (Option.some.inj h)
                                  subst N1 N2
                                  clear h
                                  go_wp2_with (fail)
                                  go_ret2
                                  exact ⟨by first | rfl | simp, HB9.out⟩
                          · rw [if_neg hn0] at h; cases h
                · rw [if_neg hgd] at h; cases h
              · rw [if_neg ho] at h
                obtain ⟨N1, N2⟩ := Prod.mk.inj (Option.some.inj h)
                subst N1 N2
                clear h
                have X := clock_group_one.calls (rd_T45 l 0).f0 (rd_T45 l 0).f1 false w1 (by unfold clock_group_one.f; rw [if_neg (fun q => ho (.inl q))]; simp; exact fun q => ho (.inr q))
                with_reducible refine X.mono ?_
                clear X
                rintro e w2 ⟨rfl, hb⟩
                have HB2 := Aside0.mk (below_step HB.out hb)
                clear hb
                go_wp2_with (fail)
                go_ret2
                exact ⟨rfl, HB2.out⟩
            · have e5 : (sg.toList == ([58] : List UInt8)) = false := by simpa using e4
              have e5n : (sg.toList != ([58] : List UInt8)) = true := by simpa using e4
              by_cases e6 : sg.toList = ([58, 58] : List UInt8)
              · have e7 : (sg.toList == ([58, 58] : List UInt8)) = true := by simpa using e6
                have e7n : (sg.toList != ([58, 58] : List UInt8)) = false := by simpa using e6
                go_wp2_with (fail)
                have h := HM.out
                unfold coMid at h
                rw [if_pos (.inr (.inr e6)), if_pos hl] at h
                clear HM
                by_cases ho : (rd_T45 l 0).f1 = 1 ∨ (rd_T45 l 0).f1 = 2
                · rw [if_pos ho] at h
                  have HE := Aside0.mk h
                  clear h
                  have X := clock_group_one.calls (rd_T45 l 0).f0 (rd_T45 l 0).f1 true w1 (by unfold clock_group_one.f; rcases ho with q | q <;> simp [q])
                  with_reducible refine X.mono ?_
                  clear X
                  rintro e w2 ⟨rfl, hb⟩
                  have HR2 := Aside0.mk (Kd.R_below HR.out hb)
                  have HB2 := Aside0.mk (below_step HB.out hb)
                  clear hb
                  obtain ⟨ad, ead, hy0, hy1⟩ := at_T45 (Kd.R_reads' HR2.out).2.2 0 (by omega) (by omega)
                  injection ead with ead
                  subst ead
                  rw [show (0 : Int).toNat * 2 = 0 from rfl, Addr.add_zero'] at hy0 hy1
                  have h := HE.out
                  unfold coEnd at h
                  by_cases hgd : 0 ≤ (rd_T45 l 0).f0 ∧ (rd_T45 l 0).f0 ≤ 999999 ∧ 0 < l.length ∧ l.length ≤ 1000000
                  · rw [if_pos hgd] at h
                    obtain ⟨g1, g2, g3, g4⟩ := hgd
                    have H := Aside0.mk h
                    clear h HE
                    obtain ⟨res, hcl, h⟩ := Option.bind_eq_some_iff.mp H.out
                    have HL := Aside0.mk hcl
                    have HF := Aside0.mk h
                    clear hcl h H
                    have hcap := (co_lt HR2.out (by omega)).2
                    by_cases hc1 : cap = 1
                    · subst hc1
                      go_wp2_with (fail)
                      go_loopg [7, 8, 9, 85] l.length (fun kq v7 v8 v9 v85 w' => ∃ (n u : Int) (mo : Bool) (i : Nat), v7 = .int .i64 n ∧ v8 = .int .i64 u ∧ v9 = .bool mo ∧ v85 = .int .i64 i ∧ Aside0 (CoInv l res w (.slice (some ⟨g, 0, none⟩) l.length 1) kq n u mo i w'))
                      case atStart => exact ⟨_, _, _, 0, rfl, rfl, rfl, rfl, ⟨⟨by omega, by omega, by rw [List.drop_one]; exact HL.out, HR2.out, HB2.out⟩⟩⟩
                      case round =>
                        clear HL HR2 HB2
                        obtain ⟨n, u, mo, i, rfl, rfl, rfl, rfl, HI⟩ := hrel
                        obtain ⟨hi1, hi2, hA, hR, hB⟩ := HI.out
                        clear HI
                        cases gk with
                        | zero => omega
                        | succ k1 =>
                          have hix : decide ((i : Int) < ((l.length - 1 : Nat) : Int)) = false := decide_eq_false (by omega)
                          have hd0 : l.drop (i + 1) = [] := List.drop_eq_nil_of_le (by omega)
                          rw [hd0] at hA
                          simp only [coLoop] at hA
                          obtain rfl := Option.some.inj hA
                          have h := HF.out
                          simp only at h
                          have HB9 := Aside0.mk hB
                          clear hA hd0 HF hR hB
                          by_cases hn0 : 0 ≤ n
                          · rw [if_pos hn0] at h
                            cases mo with
                            | true =>
                              rw [if_pos rfl] at h
                              obtain ⟨N1, N2⟩ := Prod.mk.inj (Option.some.inj h)
                              subst N1 N2
                              clear h
                              go_wp2_with (fail)
                              go_ret2
                              exact ⟨by first | rfl | simp, HB9.out⟩
                            | false =>
                              rw [if_neg Bool.false_ne_true] at h
                              by_cases hn1 : 57599 < n
                              · have e9 : decide (57599 < n) = true := decide_eq_true hn1
                                rw [if_pos hn1] at h
                                obtain ⟨N1, N2⟩ := Prod.mk.inj (Option.some.inj h)
                                subst N1 N2
                                clear h
                                go_wp2_with (fail)
                                go_ret2
                                exact ⟨by first | rfl | simp, HB9.out⟩
                              · have e9 : decide (57599 < n) = false := decide_eq_false hn1
                                rw [if_neg hn1] at h
                                by_cases hm : bt a0 0 = 45
                                · have e8 : (bt a0 0 == 45) = true := by simpa using hm
                                  rw [if_pos hm] at h
                                  obtain ⟨N1, N2⟩ := Prod.mk.inj (Option.some.inj h)
                                  subst N1 N2
                                  clear h
                                  go_wp2_with (fail)
                                  go_ret2
                                  exact ⟨by first | rfl | simp, HB9.out⟩
                                · have e8 : (bt a0 0 == 45) = false := by simpa using hm
                                  rw [if_neg hm] at h
                                  obtain ⟨N1, N2⟩ := Prod.mk.inj (Option.some.inj h)
                                  subst N1 N2
                                  clear h
                                  go_wp2_with (fail)
                                  go_ret2
                                  exact ⟨by first | rfl | simp, HB9.out⟩
                          · rw [if_neg hn0] at h; cases h
                    · have hc1b : (cap == 1) = false := by simpa using hc1
                      go_wp2_with (fail)
                      go_loopg [7, 8, 9, 85] l.length (fun kq v7 v8 v9 v85 w' => ∃ (n u : Int) (mo : Bool) (i : Nat), v7 = .int .i64 n ∧ v8 = .int .i64 u ∧ v9 = .bool mo ∧ v85 = .int .i64 i ∧ Aside0 (CoInv l res w (.slice (some ⟨g, 0, none⟩) l.length cap) kq n u mo i w'))
                      case atStart => exact ⟨_, _, _, 0, rfl, rfl, rfl, rfl, ⟨⟨by omega, by omega, by rw [List.drop_one]; exact HL.out, HR2.out, HB2.out⟩⟩⟩
                      case round =>
                        clear HL HR2 HB2
                        obtain ⟨n, u, mo, i, rfl, rfl, rfl, rfl, HI⟩ := hrel
                        obtain ⟨hi1, hi2, hA, hR, hB⟩ := HI.out
                        clear HI
                        cases gk with
                        | zero => omega
                        | succ k1 =>
                          by_cases hi : i + 1 < l.length
                          · obtain ⟨ad, ead, hc0, hc1'⟩ := at_T45 (Kd.R_reads' hR).2.2 ((i : Int) + 1) (by omega) (by omega)
                            injection ead with ead
                            subst ead
                            rw [show ((i : Int) + 1).toNat * 2 = 2 + i * 2 by omega, Go.Proofs.YtecijnjnhdjokaaW.PrintWords.add_plain] at hc0 hc1'
                            have hgs := (co_lt hR (by omega)).1
                            have hne1 : g ≠ wr.heap.size := by omega
                            have hne2 : wr.heap.size ≠ g := by omega
                            have hix : decide ((i : Int) < ((l.length - 1 : Nat) : Int)) = true := decide_eq_true (by omega)
                            have HR3 := Aside0.mk hR
                            have HB3 := Aside0.mk hB
                            have HA3 := Aside0.mk hA
                            clear hR hB hA
                            go_wp2_with (fail)
                            have hdr : l.drop (i + 1) = rd_T45 l ((i : Int) + 1) :: l.drop (i + 2) := by
                              rw [List.drop_eq_getElem_cons (by omega)]
                              congr 1
                              unfold rd_T45
                              rw [show ((i : Int) + 1).toNat = i + 1 by omega, List.getD_eq_getElem?_getD, List.getElem?_eq_getElem (by omega)]
                              rfl
                            have hA := HA3.out
                            rw [hdr] at hA
                            generalize rd_T45 l ((i : Int) + 1) = q at hA hc0 hc1'
                            simp only [coLoop] at hA
                            by_cases h2 : q.f1 = 2
                            · rw [if_pos h2] at hA
                              by_cases hgd : (0 ≤ q.f0 ∧ q.f0 ≤ 999999) ∧ (0 ≤ n ∧ n ≤ 100000000000) ∧ 0 ≤ u ∧ u ≤ 60
                              · rw [if_pos hgd] at hA
                                obtain ⟨⟨p1, p2⟩, ⟨p3, p4⟩, p5, p6⟩ := hgd
                                have HA4 := Aside0.mk hA
                                clear hA HA3 hdr
                                have X := clock_group_two.calls q.f0 q.f1 true (wr.alloc (.cells #[.int .i64 q.f0, .int .i64 q.f1] 45)) (by unfold clock_group_two.f; rw [h2]; rfl)
                                with_reducible refine X.mono ?_
                                clear X
                                rintro e w3 ⟨rfl, hb⟩
                                have hbx := blk_below (blk_new wr (.cells #[.int .i64 q.f0, .int .i64 q.f1] 45)) hb
                                have hb0 : w3.cell? ⟨wr.heap.size, 0, none⟩ = some (.int .i64 q.f0) := (blk_cell hbx 0).trans rfl
                                have HR4 := Aside0.mk (Kd.R_below (Kd.R_alloc HR3.out _) hb)
                                have HB4 := Aside0.mk (below_step (below_alloc HB3.out _) hb)
                                have hmul1 : 0 ≤ q.f0 * u := Int.mul_nonneg p1 p5
                                have hmul2 : q.f0 * u ≤ 999999 * 60 := Int.le_trans (Int.mul_le_mul_of_nonneg_right p2 p5) (Int.mul_le_mul_of_nonneg_left p6 (by decide))
                                clear hb hbx
                                cases mo with
                                | true =>
                                  go_wp2_with (fail)
                                  go_roundg k1
                                  case measure => omega
                                  case rel => exact ⟨_, _, _, i + 1, rfl, rfl, rfl, by rw [Int.natCast_add]; rfl, ⟨⟨by omega, by omega, HA4.out, HR4.out, HB4.out⟩⟩⟩
                                | false =>
                                  by_cases h59 : 59 < q.f0
                                  · have e7 : decide (59 < q.f0) = true := decide_eq_true h59
                                    have hA := HA4.out
                                    rw [e7, Bool.or_true] at hA
                                    have HA5 := Aside0.mk hA
                                    clear hA HA4
                                    go_wp2_with (fail)
                                    go_roundg k1
                                    case measure => omega
                                    case rel => exact ⟨_, _, _, i + 1, rfl, rfl, rfl, by rw [Int.natCast_add]; rfl, ⟨⟨by omega, by omega, HA5.out, HR4.out, HB4.out⟩⟩⟩
                                  · have e7 : decide (59 < q.f0) = false := decide_eq_false h59
                                    have hA := HA4.out
                                    rw [e7, Bool.or_false] at hA
                                    have HA5 := Aside0.mk hA
                                    clear hA HA4
                                    go_wp2_with (fail)
                                    go_roundg k1
                                    case measure => omega
                                    case rel => exact ⟨_, _, _, i + 1, rfl, rfl, rfl, by rw [Int.natCast_add]; rfl, ⟨⟨by omega, by omega, HA5.out, HR4.out, HB4.out⟩⟩⟩
                              · rw [if_neg hgd] at hA; cases hA
                            · rw [if_neg h2] at hA
                              obtain rfl := Option.some.inj hA
                              have h := HF.out
                              obtain ⟨N1, N2⟩ := Prod.mk.inj (Option.some.inj h)
                              subst N1 N2
                              clear h hA HF HA3 hdr
                              have X := clock_group_two.calls q.f0 q.f1 false (wr.alloc (.cells #[.int .i64 q.f0, .int .i64 q.f1] 45)) (by unfold clock_group_two.f; simpa using h2)
                              with_reducible refine X.mono ?_
                              clear X
                              rintro e w3 ⟨rfl, hb⟩
                              have HB4 := Aside0.mk (below_step (below_alloc HB3.out _) hb)
                              clear hb
                              go_wp2_with (fail)
                              go_ret2
                              exact ⟨rfl, HB4.out⟩
                          · have hii := hi
                            have hix : decide ((i : Int) < ((l.length - 1 : Nat) : Int)) = false := decide_eq_false (by omega)
                            have hd0 : l.drop (i + 1) = [] := List.drop_eq_nil_of_le (by omega)
                            rw [hd0] at hA
                            simp only [coLoop] at hA
                            obtain rfl := Option.some.inj hA
                            have h := HF.out
                            simp only at h
                            have HB9 := Aside0.mk hB
                            clear hA hd0 HF hR hB
                            by_cases hn0 : 0 ≤ n
                            · rw [if_pos hn0] at h
                              cases mo with
                              | true =>
                                rw [if_pos rfl] at h
                                obtain ⟨N1, N2⟩ := Prod.mk.inj (Option.some.inj h)
                                subst N1 N2
                                clear h
                                go_wp2_with (fail)
                                go_ret2
                                exact ⟨by first | rfl | simp, HB9.out⟩
                              | false =>
                                rw [if_neg Bool.false_ne_true] at h
                                by_cases hn1 : 57599 < n
                                · have e9 : decide (57599 < n) = true := decide_eq_true hn1
                                  rw [if_pos hn1] at h
                                  obtain ⟨N1, N2⟩ := Prod.mk.inj (Option.some.inj h)
                                  subst N1 N2
                                  clear h
                                  go_wp2_with (fail)
                                  go_ret2
                                  exact ⟨by first | rfl | simp, HB9.out⟩
                                · have e9 : decide (57599 < n) = false := decide_eq_false hn1
                                  rw [if_neg hn1] at h
                                  by_cases hm : bt a0 0 = 45
                                  · have e8 : (bt a0 0 == 45) = true := by simpa using hm
                                    rw [if_pos hm] at h
                                    obtain ⟨N1, N2⟩ := Prod.mk.inj (Option.some.inj h)
                                    subst N1 N2
                                    clear h
                                    go_wp2_with (fail)
                                    go_ret2
                                    exact ⟨by first | rfl | simp, HB9.out⟩
                                  · have e8 : (bt a0 0 == 45) = false := by simpa using hm
                                    rw [if_neg hm] at h
                                    obtain ⟨N1, N2⟩ := Prod.mk.inj (Option.some.inj h)
                                    subst N1 N2
                                    clear h
                                    go_wp2_with (fail)
                                    go_ret2
                                    exact ⟨by first | rfl | simp, HB9.out⟩
                            · rw [if_neg hn0] at h; cases h
                  · rw [if_neg hgd] at h; cases h
                · rw [if_neg ho] at h
                  obtain ⟨N1, N2⟩ := Prod.mk.inj (Option.some.inj h)
                  subst N1 N2
                  clear h
                  have X := clock_group_one.calls (rd_T45 l 0).f0 (rd_T45 l 0).f1 false w1 (by unfold clock_group_one.f; rw [if_neg (fun q => ho (.inl q))]; simp; exact fun q => ho (.inr q))
                  with_reducible refine X.mono ?_
                  clear X
                  rintro e w2 ⟨rfl, hb⟩
                  have HB2 := Aside0.mk (below_step HB.out hb)
                  clear hb
                  go_wp2_with (fail)
                  go_ret2
                  exact ⟨rfl, HB2.out⟩
              · have e7 : (sg.toList == ([58, 58] : List UInt8)) = false := by simpa using e6
                have e7n : (sg.toList != ([58, 58] : List UInt8)) = true := by simpa using e6
                have h := HM.out
                unfold coMid at h
                rw [if_neg (fun q => q.elim e0 (fun q => q.elim e4 e6))] at h
                obtain ⟨N1, N2⟩ := Prod.mk.inj (Option.some.inj h)
                subst N1 N2
                clear h HM
                go_wp2_with (fail)
                go_ret2
                exact ⟨rfl, HB.out⟩
      · rw [if_neg hl] at h; cases h
  · have hzz := f1
    go_enter Try.func26, Try.ntmps26
    go_upto_region 4 with (first | (go_at_call 33; have X := (clock_groups.calls _ l sg ok w Q1.out); with_reducible refine X.mono ?_; clear X; rintro e w1 ⟨v0, rfl, hR, hB⟩; have HR := Aside0.mk hR; have HB := Aside0.mk hB; clear hR hB))
    have h := H.out
    cases ok with
    | false =>
      rw [if_neg Bool.false_ne_true] at h
      obtain ⟨N1, N2⟩ := Prod.mk.inj (Option.some.inj h)
      subst N1 N2
      clear h H
      go_wp2_with (fail)
      go_ret2
      exact ⟨rfl, HB.out⟩
    | true =>
      rw [if_pos rfl] at h
      by_cases hl : 0 < l.length
      · rw [if_pos hl] at h
        obtain ⟨g, cap, hv, hg⟩ := gr_open HR.out (by omega)
        subst hv
        obtain ⟨ad, ead, hx0, hx1⟩ := at_T45 (Kd.R_reads' HR.out).2.2 0 (by omega) (by omega)
        injection ead with ead
        subst ead
        rw [show (0 : Int).toNat * 2 = 0 from rfl, Addr.add_zero'] at hx0 hx1
        have qi : (0 < l.length) = True := eq_true hl
        by_cases hh : sg.toList = ([] : List UInt8) ∧ (rd_T45 l 0).f1 = 4
        · obtain ⟨e0, h4⟩ := hh
          rw [if_pos ⟨e0, h4⟩] at h
          have e1 : sg.toList.isEmpty = true := by rw [e0]; rfl
          have e2 : (sg.toList == ([] : List UInt8)) = true := by rw [e0]; rfl
          have e3 : ((rd_T45 l 0).f1 == 4) = true := by simpa using h4
          by_cases hgd : 0 ≤ (rd_T45 l 0).f0 ∧ (rd_T45 l 0).f0 ≤ 999999
          · rw [if_pos hgd] at h
            obtain ⟨g1, g2⟩ := hgd
            have HM := Aside0.mk h
            clear h H
            go_wp2_with (fail)
            go_region_held3 (fun w' => w'.cell? ⟨g, 0, none⟩ = some (.int .i64 (rd_T45 l 0).f0)) (first | assumption | go_keep) (fail)
            have HR5 := Aside0.mk (Kd.R_drew (co_new w1 (IntKind.i64.wrap ((rd_T45 l 0).f0.tdiv 100)) ((rd_T45 l 0).f0.tmod 100) w.heap.size HB.out.size))
            have HB5 := Aside0.mk (below_drew1 (below_alloc HB.out (.cells #[.int .i64 (IntKind.i64.wrap ((rd_T45 l 0).f0.tdiv 100)), .int .i64 2, .int .i64 ((rd_T45 l 0).f0.tmod 100), .int .i64 2] 45)))
            obtain ⟨l2, hl2⟩ : ∃ l2 : List S45, l2 = [⟨IntKind.i64.wrap ((rd_T45 l 0).f0.tdiv 100), 2⟩, ⟨(rd_T45 l 0).f0.tmod 100, 2⟩] := ⟨_, rfl⟩
            rw [← hl2] at HR5 HM
            have hlen : l2.length = 2 := by rw [hl2]; rfl
            obtain ⟨cap2, hc2⟩ : ∃ c : Nat, c = 2 := ⟨_, rfl⟩
            have hsl : Value.slice (some ⟨w1.heap.size, 0, none⟩) 2 2 = Value.slice (some ⟨w1.heap.size, 0, none⟩) l2.length cap2 := by rw [hlen, hc2]
            rw [hsl] at HR5 ⊢
            clear hsl hl2 hx0 hx1
            generalize (w1.alloc (.cells #[.int .i64 (IntKind.i64.wrap ((rd_T45 l 0).f0.tdiv 100)), .int .i64 2, .int .i64 ((rd_T45 l 0).f0.tmod 100), .int .i64 2] 45)).drew = wc at *
            generalize w1.heap.size = gx at *
            have hl : 0 < l2.length := by omega
            have qi : (0 < l2.length) = True := eq_true hl
            have e58 : (⟨#[58]⟩ : ByteArray).toList = ([58] : List UInt8) := by decide +kernel
            obtain ⟨ad, ead, hx0, hx1⟩ := at_T45 (Kd.R_reads' HR5.out).2.2 0 (by omega) (by omega)
            injection ead with ead
            subst ead
            rw [show (0 : Int).toNat * 2 = 0 from rfl, Addr.add_zero'] at hx0 hx1
            go_wp2_with (fail)
            have h := HM.out
            unfold coMid at h
            rw [if_pos (.inr (.inl e58)), if_pos hl] at h
            clear HM
            by_cases ho : (rd_T45 l2 0).f1 = 1 ∨ (rd_T45 l2 0).f1 = 2
            · rw [if_pos ho] at h
              have HE := Aside0.mk h
              clear h
              have X := clock_group_one.calls (rd_T45 l2 0).f0 (rd_T45 l2 0).f1 true wc (by unfold clock_group_one.f; rcases ho with q | q <;> simp [q])
              with_reducible refine X.mono ?_
              clear X
              rintro e w2 ⟨rfl, hb⟩
              have HR2 := Aside0.mk (Kd.R_below HR5.out hb)
              have HB2 := Aside0.mk (below_step HB5.out hb)
              clear hb
              obtain ⟨ad, ead, hy0, hy1⟩ := at_T45 (Kd.R_reads' HR2.out).2.2 0 (by omega) (by omega)
              injection ead with ead
              subst ead
              rw [show (0 : Int).toNat * 2 = 0 from rfl, Addr.add_zero'] at hy0 hy1
              have h := HE.out
              unfold coEnd at h
              by_cases hgd : 0 ≤ (rd_T45 l2 0).f0 ∧ (rd_T45 l2 0).f0 ≤ 999999 ∧ 0 < l2.length ∧ l2.length ≤ 1000000
              · rw [if_pos hgd] at h
                obtain ⟨g1, g2, g3, g4⟩ := hgd
                have H := Aside0.mk h
                clear h HE
                obtain ⟨res, hcl, h⟩ := Option.bind_eq_some_iff.mp H.out
                have HL := Aside0.mk hcl
                have HF := Aside0.mk h
                clear hcl h H
                have hcap := (co_lt HR2.out (by omega)).2
                by_cases hc1 : cap2 = 1
                · omega
                · have hc1b : (cap2 == 1) = false := by simpa using hc1
                  go_wp2_with (fail)
                  go_loopg [7, 8, 9, 85] l2.length (fun kq v7 v8 v9 v85 w' => ∃ (n u : Int) (mo : Bool) (i : Nat), v7 = .int .i64 n ∧ v8 = .int .i64 u ∧ v9 = .bool mo ∧ v85 = .int .i64 i ∧ Aside0 (CoInv l2 res w (.slice (some ⟨gx, 0, none⟩) l2.length cap2) kq n u mo i w'))
                  case atStart => exact ⟨_, _, _, 0, rfl, rfl, rfl, rfl, ⟨⟨by omega, by omega, by rw [List.drop_one]; exact HL.out, HR2.out, HB2.out⟩⟩⟩
                  case round =>
                    clear HL HR2 HB2
                    obtain ⟨n, u, mo, i, rfl, rfl, rfl, rfl, HI⟩ := hrel
                    obtain ⟨hi1, hi2, hA, hR, hB⟩ := HI.out
                    clear HI
                    cases gk with
                    | zero => omega
                    | succ k1 =>
                      by_cases hi : i + 1 < l2.length
                      · obtain ⟨ad, ead, hc0, hc1'⟩ := at_T45 (Kd.R_reads' hR).2.2 ((i : Int) + 1) (by omega) (by omega)
                        injection ead with ead
                        subst ead
                        rw [show ((i : Int) + 1).toNat * 2 = 2 + i * 2 by omega, Go.Proofs.YtecijnjnhdjokaaW.PrintWords.add_plain] at hc0 hc1'
                        have hgs := (co_lt hR (by omega)).1
                        have hne1 : gx ≠ wr.heap.size := by omega
                        have hne2 : wr.heap.size ≠ gx := by omega
                        have hix : decide ((i : Int) < ((l2.length - 1 : Nat) : Int)) = true := decide_eq_true (by omega)
                        have HR3 := Aside0.mk hR
                        have HB3 := Aside0.mk hB
                        have HA3 := Aside0.mk hA
                        clear hR hB hA
                        go_wp2_with (fail)
                        have hdr : l2.drop (i + 1) = rd_T45 l2 ((i : Int) + 1) :: l2.drop (i + 2) := by
                          rw [List.drop_eq_getElem_cons (by omega)]
                          congr 1
                          unfold rd_T45
                          rw [show ((i : Int) + 1).toNat = i + 1 by omega, List.getD_eq_getElem?_getD, List.getElem?_eq_getElem (by omega)]
                          rfl
                        have hA := HA3.out
                        rw [hdr] at hA
                        generalize rd_T45 l2 ((i : Int) + 1) = q at hA hc0 hc1'
                        simp only [coLoop] at hA
                        by_cases h2 : q.f1 = 2
                        · rw [if_pos h2] at hA
                          by_cases hgd : (0 ≤ q.f0 ∧ q.f0 ≤ 999999) ∧ (0 ≤ n ∧ n ≤ 100000000000) ∧ 0 ≤ u ∧ u ≤ 60
                          · rw [if_pos hgd] at hA
                            obtain ⟨⟨p1, p2⟩, ⟨p3, p4⟩, p5, p6⟩ := hgd
                            have HA4 := Aside0.mk hA
                            clear hA HA3 hdr
                            have X := clock_group_two.calls q.f0 q.f1 true (wr.alloc (.cells #[.int .i64 q.f0, .int .i64 q.f1] 45)) (by unfold clock_group_two.f; rw [h2]; rfl)
                            with_reducible refine X.mono ?_
                            clear X
                            rintro e w3 ⟨rfl, hb⟩
                            have hbx := blk_below (blk_new wr (.cells #[.int .i64 q.f0, .int .i64 q.f1] 45)) hb
                            have hb0 : w3.cell? ⟨wr.heap.size, 0, none⟩ = some (.int .i64 q.f0) := (blk_cell hbx 0).trans rfl
                            have HR4 := Aside0.mk (Kd.R_below (Kd.R_alloc HR3.out _) hb)
                            have HB4 := Aside0.mk (below_step (below_alloc HB3.out _) hb)
                            have hmul1 : 0 ≤ q.f0 * u := Int.mul_nonneg p1 p5
                            have hmul2 : q.f0 * u ≤ 999999 * 60 := Int.le_trans (Int.mul_le_mul_of_nonneg_right p2 p5) (Int.mul_le_mul_of_nonneg_left p6 (by decide))
                            clear hb hbx
                            cases mo with
                            | true =>
                              go_wp2_with (fail)
                              go_roundg k1
                              case measure => omega
                              case rel => exact ⟨_, _, _, i + 1, rfl, rfl, rfl, by rw [Int.natCast_add]; rfl, ⟨⟨by omega, by omega, HA4.out, HR4.out, HB4.out⟩⟩⟩
                            | false =>
                              by_cases h59 : 59 < q.f0
                              · have e7 : decide (59 < q.f0) = true := decide_eq_true h59
                                have hA := HA4.out
                                rw [e7, Bool.or_true] at hA
                                have HA5 := Aside0.mk hA
                                clear hA HA4
                                go_wp2_with (fail)
                                go_roundg k1
                                case measure => omega
                                case rel => exact ⟨_, _, _, i + 1, rfl, rfl, rfl, by rw [Int.natCast_add]; rfl, ⟨⟨by omega, by omega, HA5.out, HR4.out, HB4.out⟩⟩⟩
                              · have e7 : decide (59 < q.f0) = false := decide_eq_false h59
                                have hA := HA4.out
                                rw [e7, Bool.or_false] at hA
                                have HA5 := Aside0.mk hA
                                clear hA HA4
                                go_wp2_with (fail)
                                go_roundg k1
                                case measure => omega
                                case rel => exact ⟨_, _, _, i + 1, rfl, rfl, rfl, by rw [Int.natCast_add]; rfl, ⟨⟨by omega, by omega, HA5.out, HR4.out, HB4.out⟩⟩⟩
                          · rw [if_neg hgd] at hA; cases hA
                        · rw [if_neg h2] at hA
                          obtain rfl := Option.some.inj hA
                          have h := HF.out
                          obtain ⟨N1, N2⟩ := Prod.mk.inj (Option.some.inj h)
                          subst N1 N2
                          clear h hA HF HA3 hdr
                          have X := clock_group_two.calls q.f0 q.f1 false (wr.alloc (.cells #[.int .i64 q.f0, .int .i64 q.f1] 45)) (by unfold clock_group_two.f; simpa using h2)
                          with_reducible refine X.mono ?_
                          clear X
                          rintro e w3 ⟨rfl, hb⟩
                          have HB4 := Aside0.mk (below_step (below_alloc HB3.out _) hb)
                          clear hb
                          go_wp2_with (fail)
                          go_ret2
                          exact ⟨rfl, HB4.out⟩
                      · have hii := hi
                        have hix : decide ((i : Int) < ((l2.length - 1 : Nat) : Int)) = false := decide_eq_false (by omega)
                        have hd0 : l2.drop (i + 1) = [] := List.drop_eq_nil_of_le (by omega)
                        rw [hd0] at hA
                        simp only [coLoop] at hA
                        obtain rfl := Option.some.inj hA
                        have h := HF.out
                        simp only at h
                        have HB9 := Aside0.mk hB
                        clear hA hd0 HF hR hB
                        by_cases hn0 : 0 ≤ n
                        · rw [if_pos hn0] at h
                          cases mo with
                          | true =>
                            rw [if_pos rfl] at h
                            obtain ⟨N1, N2⟩ := Prod.mk.inj (Option.some.inj h)
                            subst N1 N2
                            clear h
                            go_wp2_with (fail)
                            go_ret2
                            exact ⟨by first | rfl | simp, HB9.out⟩
                          | false =>
                            rw [if_neg Bool.false_ne_true] at h
                            by_cases hn1 : 57599 < n
                            · have e9 : decide (57599 < n) = true := decide_eq_true hn1
                              rw [if_pos hn1] at h
                              obtain ⟨N1, N2⟩ := Prod.mk.inj (Option.some.inj h)
                              subst N1 N2
                              clear h
                              go_wp2_with (fail)
                              go_ret2
                              exact ⟨by first | rfl | simp, HB9.out⟩
                            · have e9 : decide (57599 < n) = false := decide_eq_false hn1
                              rw [if_neg hn1] at h
                              by_cases hm : bt a0 0 = 45
                              · have e8 : (bt a0 0 == 45) = true := by simpa using hm
                                rw [if_pos hm] at h
                                obtain ⟨N1, N2⟩ := Prod.mk.inj (Option.some.inj h)
                                subst N1 N2
                                clear h
                                go_wp2_with (fail)
                                go_ret2
                                exact ⟨by first | rfl | simp, HB9.out⟩
                              · have e8 : (bt a0 0 == 45) = false := by simpa using hm
                                rw [if_neg hm] at h
                                obtain ⟨N1, N2⟩ := Prod.mk.inj (Option.some.inj h)
                                subst N1 N2
                                clear h
                                go_wp2_with (fail)
                                go_ret2
                                exact ⟨by first | rfl | simp, HB9.out⟩
                        · rw [if_neg hn0] at h; cases h
              · rw [if_neg hgd] at h; cases h
            · rw [if_neg ho] at h
              obtain ⟨N1, N2⟩ := Prod.mk.inj (Option.some.inj h)
              subst N1 N2
              clear h
              have X := clock_group_one.calls (rd_T45 l2 0).f0 (rd_T45 l2 0).f1 false wc (by unfold clock_group_one.f; rw [if_neg (fun q => ho (.inl q))]; simp; exact fun q => ho (.inr q))
              with_reducible refine X.mono ?_
              clear X
              rintro e w2 ⟨rfl, hb⟩
              have HB2 := Aside0.mk (below_step HB5.out hb)
              clear hb
              go_wp2_with (fail)
              go_ret2
              exact ⟨rfl, HB2.out⟩
          · rw [if_neg hgd] at h; cases h
        · rw [if_neg hh] at h
          have HM := Aside0.mk h
          clear h H
          by_cases e0 : sg.toList = ([] : List UInt8)
          · have e1 : sg.toList.isEmpty = true := by rw [e0]; rfl
            have e2 : (sg.toList == ([] : List UInt8)) = true := by rw [e0]; rfl
            have e3 : ((rd_T45 l 0).f1 == 4) = false := by simp; exact fun q => hh ⟨e0, q⟩
            go_wp2_with (fail)
            have h := HM.out
            unfold coMid at h
            rw [if_pos (.inl e0), if_pos hl] at h
            clear HM
            by_cases ho : (rd_T45 l 0).f1 = 1 ∨ (rd_T45 l 0).f1 = 2
            · rw [if_pos ho] at h
              have HE := Aside0.mk h
              clear h
              have X := clock_group_one.calls (rd_T45 l 0).f0 (rd_T45 l 0).f1 true w1 (by unfold clock_group_one.f; rcases ho with q | q <;> simp [q])
              with_reducible refine X.mono ?_
              clear X
              rintro e w2 ⟨rfl, hb⟩
              have HR2 := Aside0.mk (Kd.R_below HR.out hb)
              have HB2 := Aside0.mk (below_step HB.out hb)
              clear hb
              obtain ⟨ad, ead, hy0, hy1⟩ := at_T45 (Kd.R_reads' HR2.out).2.2 0 (by omega) (by omega)
              injection ead with ead
              subst ead
              rw [show (0 : Int).toNat * 2 = 0 from rfl, Addr.add_zero'] at hy0 hy1
              have h := HE.out
              unfold coEnd at h
              by_cases hgd : 0 ≤ (rd_T45 l 0).f0 ∧ (rd_T45 l 0).f0 ≤ 999999 ∧ 0 < l.length ∧ l.length ≤ 1000000
              · rw [if_pos hgd] at h
                obtain ⟨g1, g2, g3, g4⟩ := hgd
                have H := Aside0.mk h
                clear h HE
                obtain ⟨res, hcl, h⟩ := Option.bind_eq_some_iff.mp H.out
                have HL := Aside0.mk hcl
                have HF := Aside0.mk h
                clear hcl h H
                have hcap := (co_lt HR2.out (by omega)).2
                by_cases hc1 : cap = 1
                · subst hc1
                  go_wp2_with (fail)
                  go_loopg [7, 8, 9, 85] l.length (fun kq v7 v8 v9 v85 w' => ∃ (n u : Int) (mo : Bool) (i : Nat), v7 = .int .i64 n ∧ v8 = .int .i64 u ∧ v9 = .bool mo ∧ v85 = .int .i64 i ∧ Aside0 (CoInv l res w (.slice (some ⟨g, 0, none⟩) l.length 1) kq n u mo i w'))
                  case atStart => exact ⟨_, _, _, 0, rfl, rfl, rfl, rfl, ⟨⟨by omega, by omega, by rw [List.drop_one]; exact HL.out, HR2.out, HB2.out⟩⟩⟩
                  case round =>
                    clear HL HR2 HB2
                    obtain ⟨n, u, mo, i, rfl, rfl, rfl, rfl, HI⟩ := hrel
                    obtain ⟨hi1, hi2, hA, hR, hB⟩ := HI.out
                    clear HI
                    cases gk with
                    | zero => omega
                    | succ k1 =>
                      have hix : decide ((i : Int) < ((l.length - 1 : Nat) : Int)) = false := decide_eq_false (by omega)
                      have hd0 : l.drop (i + 1) = [] := List.drop_eq_nil_of_le (by omega)
                      rw [hd0] at hA
                      simp only [coLoop] at hA
                      obtain rfl := Option.some.inj hA
                      have h := HF.out
                      simp only at h
                      have HB9 := Aside0.mk hB
                      clear hA hd0 HF hR hB
                      by_cases hn0 : 0 ≤ n
                      · rw [if_pos hn0] at h
                        cases mo with
                        | true =>
                          rw [if_pos rfl] at h
                          obtain ⟨N1, N2⟩ := Prod.mk.inj (Option.some.inj h)
                          subst N1 N2
                          clear h
                          go_wp2_with (fail)
                          go_ret2
                          exact ⟨by first | rfl | simp, HB9.out⟩
                        | false =>
                          rw [if_neg Bool.false_ne_true] at h
                          by_cases hn1 : 57599 < n
                          · have e9 : decide (57599 < n) = true := decide_eq_true hn1
                            rw [if_pos hn1] at h
                            obtain ⟨N1, N2⟩ := Prod.mk.inj (Option.some.inj h)
                            subst N1 N2
                            clear h
                            go_wp2_with (fail)
                            go_ret2
                            exact ⟨by first | rfl | simp, HB9.out⟩
                          · have e9 : decide (57599 < n) = false := decide_eq_false hn1
                            rw [if_neg hn1] at h
                            by_cases hm : bt a0 0 = 45
                            · have e8 : (bt a0 0 == 45) = true := by simpa using hm
                              rw [if_pos hm] at h
                              obtain ⟨N1, N2⟩ := Prod.mk.inj (Option.some.inj h)
                              subst N1 N2
                              clear h
                              go_wp2_with (fail)
                              go_ret2
                              exact ⟨by first | rfl | simp, HB9.out⟩
                            · have e8 : (bt a0 0 == 45) = false := by simpa using hm
                              rw [if_neg hm] at h
                              obtain ⟨N1, N2⟩ := Prod.mk.inj (Option.some.inj h)
                              subst N1 N2
                              clear h
                              go_wp2_with (fail)
                              go_ret2
                              exact ⟨by first | rfl | simp, HB9.out⟩
                      · rw [if_neg hn0] at h; cases h
                · have hc1b : (cap == 1) = false := by simpa using hc1
                  go_wp2_with (fail)
                  go_loopg [7, 8, 9, 85] l.length (fun kq v7 v8 v9 v85 w' => ∃ (n u : Int) (mo : Bool) (i : Nat), v7 = .int .i64 n ∧ v8 = .int .i64 u ∧ v9 = .bool mo ∧ v85 = .int .i64 i ∧ Aside0 (CoInv l res w (.slice (some ⟨g, 0, none⟩) l.length cap) kq n u mo i w'))
                  case atStart => exact ⟨_, _, _, 0, rfl, rfl, rfl, rfl, ⟨⟨by omega, by omega, by rw [List.drop_one]; exact HL.out, HR2.out, HB2.out⟩⟩⟩
                  case round =>
                    clear HL HR2 HB2
                    obtain ⟨n, u, mo, i, rfl, rfl, rfl, rfl, HI⟩ := hrel
                    obtain ⟨hi1, hi2, hA, hR, hB⟩ := HI.out
                    clear HI
                    cases gk with
                    | zero => omega
                    | succ k1 =>
                      by_cases hi : i + 1 < l.length
                      · obtain ⟨ad, ead, hc0, hc1'⟩ := at_T45 (Kd.R_reads' hR).2.2 ((i : Int) + 1) (by omega) (by omega)
                        injection ead with ead
                        subst ead
                        rw [show ((i : Int) + 1).toNat * 2 = 2 + i * 2 by omega, Go.Proofs.YtecijnjnhdjokaaW.PrintWords.add_plain] at hc0 hc1'
                        have hgs := (co_lt hR (by omega)).1
                        have hne1 : g ≠ wr.heap.size := by omega
                        have hne2 : wr.heap.size ≠ g := by omega
                        have hix : decide ((i : Int) < ((l.length - 1 : Nat) : Int)) = true := decide_eq_true (by omega)
                        have HR3 := Aside0.mk hR
                        have HB3 := Aside0.mk hB
                        have HA3 := Aside0.mk hA
                        clear hR hB hA
                        go_wp2_with (fail)
                        have hdr : l.drop (i + 1) = rd_T45 l ((i : Int) + 1) :: l.drop (i + 2) := by
                          rw [List.drop_eq_getElem_cons (by omega)]
                          congr 1
                          unfold rd_T45
                          rw [show ((i : Int) + 1).toNat = i + 1 by omega, List.getD_eq_getElem?_getD, List.getElem?_eq_getElem (by omega)]
                          rfl
                        have hA := HA3.out
                        rw [hdr] at hA
                        generalize rd_T45 l ((i : Int) + 1) = q at hA hc0 hc1'
                        simp only [coLoop] at hA
                        by_cases h2 : q.f1 = 2
                        · rw [if_pos h2] at hA
                          by_cases hgd : (0 ≤ q.f0 ∧ q.f0 ≤ 999999) ∧ (0 ≤ n ∧ n ≤ 100000000000) ∧ 0 ≤ u ∧ u ≤ 60
                          · rw [if_pos hgd] at hA
                            obtain ⟨⟨p1, p2⟩, ⟨p3, p4⟩, p5, p6⟩ := hgd
                            have HA4 := Aside0.mk hA
                            clear hA HA3 hdr
                            have X := clock_group_two.calls q.f0 q.f1 true (wr.alloc (.cells #[.int .i64 q.f0, .int .i64 q.f1] 45)) (by unfold clock_group_two.f; rw [h2]; rfl)
                            with_reducible refine X.mono ?_
                            clear X
                            rintro e w3 ⟨rfl, hb⟩
                            have hbx := blk_below (blk_new wr (.cells #[.int .i64 q.f0, .int .i64 q.f1] 45)) hb
                            have hb0 : w3.cell? ⟨wr.heap.size, 0, none⟩ = some (.int .i64 q.f0) := (blk_cell hbx 0).trans rfl
                            have HR4 := Aside0.mk (Kd.R_below (Kd.R_alloc HR3.out _) hb)
                            have HB4 := Aside0.mk (below_step (below_alloc HB3.out _) hb)
                            have hmul1 : 0 ≤ q.f0 * u := Int.mul_nonneg p1 p5
                            have hmul2 : q.f0 * u ≤ 999999 * 60 := Int.le_trans (Int.mul_le_mul_of_nonneg_right p2 p5) (Int.mul_le_mul_of_nonneg_left p6 (by decide))
                            clear hb hbx
                            cases mo with
                            | true =>
                              go_wp2_with (fail)
                              go_roundg k1
                              case measure => omega
                              case rel => exact ⟨_, _, _, i + 1, rfl, rfl, rfl, by rw [Int.natCast_add]; rfl, ⟨⟨by omega, by omega, HA4.out, HR4.out, HB4.out⟩⟩⟩
                            | false =>
                              by_cases h59 : 59 < q.f0
                              · have e7 : decide (59 < q.f0) = true := decide_eq_true h59
                                have hA := HA4.out
                                rw [e7, Bool.or_true] at hA
                                have HA5 := Aside0.mk hA
                                clear hA HA4
                                go_wp2_with (fail)
                                go_roundg k1
                                case measure => omega
                                case rel => exact ⟨_, _, _, i + 1, rfl, rfl, rfl, by rw [Int.natCast_add]; rfl, ⟨⟨by omega, by omega, HA5.out, HR4.out, HB4.out⟩⟩⟩
                              · have e7 : decide (59 < q.f0) = false := decide_eq_false h59
                                have hA := HA4.out
                                rw [e7, Bool.or_false] at hA
                                have HA5 := Aside0.mk hA
                                clear hA HA4
                                go_wp2_with (fail)
                                go_roundg k1
                                case measure => omega
                                case rel => exact ⟨_, _, _, i + 1, rfl, rfl, rfl, by rw [Int.natCast_add]; rfl, ⟨⟨by omega, by omega, HA5.out, HR4.out, HB4.out⟩⟩⟩
                          · rw [if_neg hgd] at hA; cases hA
                        · rw [if_neg h2] at hA
                          obtain rfl := Option.some.inj hA
                          have h := HF.out
                          obtain ⟨N1, N2⟩ := Prod.mk.inj (Option.some.inj h)
                          subst N1 N2
                          clear h hA HF HA3 hdr
                          have X := clock_group_two.calls q.f0 q.f1 false (wr.alloc (.cells #[.int .i64 q.f0, .int .i64 q.f1] 45)) (by unfold clock_group_two.f; simpa using h2)
                          with_reducible refine X.mono ?_
                          clear X
                          rintro e w3 ⟨rfl, hb⟩
                          have HB4 := Aside0.mk (below_step (below_alloc HB3.out _) hb)
                          clear hb
                          go_wp2_with (fail)
                          go_ret2
                          exact ⟨rfl, HB4.out⟩
                      · have hii := hi
                        have hix : decide ((i : Int) < ((l.length - 1 : Nat) : Int)) = false := decide_eq_false (by omega)
                        have hd0 : l.drop (i + 1) = [] := List.drop_eq_nil_of_le (by omega)
                        rw [hd0] at hA
                        simp only [coLoop] at hA
                        obtain rfl := Option.some.inj hA
                        have h := HF.out
                        simp only at h
                        have HB9 := Aside0.mk hB
                        clear hA hd0 HF hR hB
                        by_cases hn0 : 0 ≤ n
                        · rw [if_pos hn0] at h
                          cases mo with
                          | true =>
                            rw [if_pos rfl] at h
                            obtain ⟨N1, N2⟩ := Prod.mk.inj (Option.some.inj h)
                            subst N1 N2
                            clear h
                            go_wp2_with (fail)
                            go_ret2
                            exact ⟨by first | rfl | simp, HB9.out⟩
                          | false =>
                            rw [if_neg Bool.false_ne_true] at h
                            by_cases hn1 : 57599 < n
                            · have e9 : decide (57599 < n) = true := decide_eq_true hn1
                              rw [if_pos hn1] at h
                              obtain ⟨N1, N2⟩ := Prod.mk.inj (Option.some.inj h)
                              subst N1 N2
                              clear h
                              go_wp2_with (fail)
                              go_ret2
                              exact ⟨by first | rfl | simp, HB9.out⟩
                            · have e9 : decide (57599 < n) = false := decide_eq_false hn1
                              rw [if_neg hn1] at h
                              by_cases hm : bt a0 0 = 45
                              · have e8 : (bt a0 0 == 45) = true := by simpa using hm
                                rw [if_pos hm] at h
                                obtain ⟨N1, N2⟩ := Prod.mk.inj (Option.some.inj h)
                                subst N1 N2
                                clear h
                                go_wp2_with (fail)
                                go_ret2
                                exact ⟨by first | rfl | simp, HB9.out⟩
                              · have e8 : (bt a0 0 == 45) = false := by simpa using hm
                                rw [if_neg hm] at h
                                obtain ⟨N1, N2⟩ := Prod.mk.inj (Option.some.inj h)
                                subst N1 N2
                                clear h
                                go_wp2_with (fail)
                                go_ret2
                                exact ⟨by first | rfl | simp, HB9.out⟩
                        · rw [if_neg hn0] at h; cases h
              · rw [if_neg hgd] at h; cases h
            · rw [if_neg ho] at h
              obtain ⟨N1, N2⟩ := Prod.mk.inj (Option.some.inj h)
              subst N1 N2
              clear h
              have X := clock_group_one.calls (rd_T45 l 0).f0 (rd_T45 l 0).f1 false w1 (by unfold clock_group_one.f; rw [if_neg (fun q => ho (.inl q))]; simp; exact fun q => ho (.inr q))
              with_reducible refine X.mono ?_
              clear X
              rintro e w2 ⟨rfl, hb⟩
              have HB2 := Aside0.mk (below_step HB.out hb)
              clear hb
              go_wp2_with (fail)
              go_ret2
              exact ⟨rfl, HB2.out⟩
          · have e1 : sg.toList.isEmpty = false := by simpa using e0
            have e2 : (sg.toList == ([] : List UInt8)) = false := by simpa using e0
            have e2n : (sg.toList != ([] : List UInt8)) = true := by simpa using e0
            by_cases e4 : sg.toList = ([58] : List UInt8)
            · have e5 : (sg.toList == ([58] : List UInt8)) = true := by simpa using e4
              have e5n : (sg.toList != ([58] : List UInt8)) = false := by simpa using e4
              go_wp2_with (fail)
              have h := HM.out
              unfold coMid at h
              rw [if_pos (.inr (.inl e4)), if_pos hl] at h
              clear HM
              by_cases ho : (rd_T45 l 0).f1 = 1 ∨ (rd_T45 l 0).f1 = 2
              · rw [if_pos ho] at h
                have HE := Aside0.mk h
                clear h
                have X := clock_group_one.calls (rd_T45 l 0).f0 (rd_T45 l 0).f1 true w1 (by unfold clock_group_one.f; rcases ho with q | q <;> simp [q])
                with_reducible refine X.mono ?_
                clear X
                rintro e w2 ⟨rfl, hb⟩
                have HR2 := Aside0.mk (Kd.R_below HR.out hb)
                have HB2 := Aside0.mk (below_step HB.out hb)
                clear hb
                obtain ⟨ad, ead, hy0, hy1⟩ := at_T45 (Kd.R_reads' HR2.out).2.2 0 (by omega) (by omega)
                injection ead with ead
                subst ead
                rw [show (0 : Int).toNat * 2 = 0 from rfl, Addr.add_zero'] at hy0 hy1
                have h := HE.out
                unfold coEnd at h
                by_cases hgd : 0 ≤ (rd_T45 l 0).f0 ∧ (rd_T45 l 0).f0 ≤ 999999 ∧ 0 < l.length ∧ l.length ≤ 1000000
                · rw [if_pos hgd] at h
                  obtain ⟨g1, g2, g3, g4⟩ := hgd
                  have H := Aside0.mk h
                  clear h HE
                  obtain ⟨res, hcl, h⟩ := Option.bind_eq_some_iff.mp H.out
                  have HL := Aside0.mk hcl
                  have HF := Aside0.mk h
                  clear hcl h H
                  have hcap := (co_lt HR2.out (by omega)).2
                  by_cases hc1 : cap = 1
                  · subst hc1
                    go_wp2_with (fail)
                    go_loopg [7, 8, 9, 85] l.length (fun kq v7 v8 v9 v85 w' => ∃ (n u : Int) (mo : Bool) (i : Nat), v7 = .int .i64 n ∧ v8 = .int .i64 u ∧ v9 = .bool mo ∧ v85 = .int .i64 i ∧ Aside0 (CoInv l res w (.slice (some ⟨g, 0, none⟩) l.length 1) kq n u mo i w'))
                    case atStart => exact ⟨_, _, _, 0, rfl, rfl, rfl, rfl, ⟨⟨by omega, by omega, by rw [List.drop_one]; exact HL.out, HR2.out, HB2.out⟩⟩⟩
                    case round =>
                      clear HL HR2 HB2
                      obtain ⟨n, u, mo, i, rfl, rfl, rfl, rfl, HI⟩ := hrel
                      obtain ⟨hi1, hi2, hA, hR, hB⟩ := HI.out
                      clear HI
                      cases gk with
                      | zero => omega
                      | succ k1 =>
                        have hix : decide ((i : Int) < ((l.length - 1 : Nat) : Int)) = false := decide_eq_false (by omega)
                        have hd0 : l.drop (i + 1) = [] := List.drop_eq_nil_of_le (by omega)
                        rw [hd0] at hA
                        simp only [coLoop] at hA
                        obtain rfl := Option.some.inj hA
                        have h := HF.out
                        simp only at h
                        have HB9 := Aside0.mk hB
                        clear hA hd0 HF hR hB
                        by_cases hn0 : 0 ≤ n
                        · rw [if_pos hn0] at h
                          cases mo with
                          | true =>
                            rw [if_pos rfl] at h
                            obtain ⟨N1, N2⟩ := Prod.mk.inj (Option.some.inj h)
                            subst N1 N2
                            clear h
                            go_wp2_with (fail)
                            go_ret2
                            exact ⟨by first | rfl | simp, HB9.out⟩
                          | false =>
                            rw [if_neg Bool.false_ne_true] at h
                            by_cases hn1 : 57599 < n
                            · have e9 : decide (57599 < n) = true := decide_eq_true hn1
                              rw [if_pos hn1] at h
                              obtain ⟨N1, N2⟩ := Prod.mk.inj (Option.some.inj h)
                              subst N1 N2
                              clear h
                              go_wp2_with (fail)
                              go_ret2
                              exact ⟨by first | rfl | simp, HB9.out⟩
                            · have e9 : decide (57599 < n) = false := decide_eq_false hn1
                              rw [if_neg hn1] at h
                              by_cases hm : bt a0 0 = 45
                              · have e8 : (bt a0 0 == 45) = true := by simpa using hm
                                rw [if_pos hm] at h
                                obtain ⟨N1, N2⟩ := Prod.mk.inj (Option.some.inj h)
                                subst N1 N2
                                clear h
                                go_wp2_with (fail)
                                go_ret2
                                exact ⟨by first | rfl | simp, HB9.out⟩
                              · have e8 : (bt a0 0 == 45) = false := by simpa using hm
                                rw [if_neg hm] at h
                                obtain ⟨N1, N2⟩ := Prod.mk.inj (Option.some.inj h)
                                subst N1 N2
                                clear h
                                go_wp2_with (fail)
                                go_ret2
                                exact ⟨by first | rfl | simp, HB9.out⟩
                        · rw [if_neg hn0] at h; cases h
                  · have hc1b : (cap == 1) = false := by simpa using hc1
                    go_wp2_with (fail)
                    go_loopg [7, 8, 9, 85] l.length (fun kq v7 v8 v9 v85 w' => ∃ (n u : Int) (mo : Bool) (i : Nat), v7 = .int .i64 n ∧ v8 = .int .i64 u ∧ v9 = .bool mo ∧ v85 = .int .i64 i ∧ Aside0 (CoInv l res w (.slice (some ⟨g, 0, none⟩) l.length cap) kq n u mo i w'))
                    case atStart => exact ⟨_, _, _, 0, rfl, rfl, rfl, rfl, ⟨⟨by omega, by omega, by rw [List.drop_one]; exact HL.out, HR2.out, HB2.out⟩⟩⟩
                    case round =>
                      clear HL HR2 HB2
                      obtain ⟨n, u, mo, i, rfl, rfl, rfl, rfl, HI⟩ := hrel
                      obtain ⟨hi1, hi2, hA, hR, hB⟩ := HI.out
                      clear HI
                      cases gk with
                      | zero => omega
                      | succ k1 =>
                        by_cases hi : i + 1 < l.length
                        · obtain ⟨ad, ead, hc0, hc1'⟩ := at_T45 (Kd.R_reads' hR).2.2 ((i : Int) + 1) (by omega) (by omega)
                          injection ead with ead
                          subst ead
                          rw [show ((i : Int) + 1).toNat * 2 = 2 + i * 2 by omega, Go.Proofs.YtecijnjnhdjokaaW.PrintWords.add_plain] at hc0 hc1'
                          have hgs := (co_lt hR (by omega)).1
                          have hne1 : g ≠ wr.heap.size := by omega
                          have hne2 : wr.heap.size ≠ g := by omega
                          have hix : decide ((i : Int) < ((l.length - 1 : Nat) : Int)) = true := decide_eq_true (by omega)
                          have HR3 := Aside0.mk hR
                          have HB3 := Aside0.mk hB
                          have HA3 := Aside0.mk hA
                          clear hR hB hA
                          go_wp2_with (fail)
                          have hdr : l.drop (i + 1) = rd_T45 l ((i : Int) + 1) :: l.drop (i + 2) := by
                            rw [List.drop_eq_getElem_cons (by omega)]
                            congr 1
                            unfold rd_T45
                            rw [show ((i : Int) + 1).toNat = i + 1 by omega, List.getD_eq_getElem?_getD, List.getElem?_eq_getElem (by omega)]
                            rfl
                          have hA := HA3.out
                          rw [hdr] at hA
                          generalize rd_T45 l ((i : Int) + 1) = q at hA hc0 hc1'
                          simp only [coLoop] at hA
                          by_cases h2 : q.f1 = 2
                          · rw [if_pos h2] at hA
                            by_cases hgd : (0 ≤ q.f0 ∧ q.f0 ≤ 999999) ∧ (0 ≤ n ∧ n ≤ 100000000000) ∧ 0 ≤ u ∧ u ≤ 60
                            · rw [if_pos hgd] at hA
                              obtain ⟨⟨p1, p2⟩, ⟨p3, p4⟩, p5, p6⟩ := hgd
                              have HA4 := Aside0.mk hA
                              clear hA HA3 hdr
                              have X := clock_group_two.calls q.f0 q.f1 true (wr.alloc (.cells #[.int .i64 q.f0, .int .i64 q.f1] 45)) (by unfold clock_group_two.f; rw [h2]; rfl)
                              with_reducible refine X.mono ?_
                              clear X
                              rintro e w3 ⟨rfl, hb⟩
                              have hbx := blk_below (blk_new wr (.cells #[.int .i64 q.f0, .int .i64 q.f1] 45)) hb
                              have hb0 : w3.cell? ⟨wr.heap.size, 0, none⟩ = some (.int .i64 q.f0) := (blk_cell hbx 0).trans rfl
                              have HR4 := Aside0.mk (Kd.R_below (Kd.R_alloc HR3.out _) hb)
                              have HB4 := Aside0.mk (below_step (below_alloc HB3.out _) hb)
                              have hmul1 : 0 ≤ q.f0 * u := Int.mul_nonneg p1 p5
                              have hmul2 : q.f0 * u ≤ 999999 * 60 := Int.le_trans (Int.mul_le_mul_of_nonneg_right p2 p5) (Int.mul_le_mul_of_nonneg_left p6 (by decide))
                              clear hb hbx
                              cases mo with
                              | true =>
                                go_wp2_with (fail)
                                go_roundg k1
                                case measure => omega
                                case rel => exact ⟨_, _, _, i + 1, rfl, rfl, rfl, by rw [Int.natCast_add]; rfl, ⟨⟨by omega, by omega, HA4.out, HR4.out, HB4.out⟩⟩⟩
                              | false =>
                                by_cases h59 : 59 < q.f0
                                · have e7 : decide (59 < q.f0) = true := decide_eq_true h59
                                  have hA := HA4.out
                                  rw [e7, Bool.or_true] at hA
                                  have HA5 := Aside0.mk hA
                                  clear hA HA4
                                  go_wp2_with (fail)
                                  go_roundg k1
                                  case measure => omega
                                  case rel => exact ⟨_, _, _, i + 1, rfl, rfl, rfl, by rw [Int.natCast_add]; rfl, ⟨⟨by omega, by omega, HA5.out, HR4.out, HB4.out⟩⟩⟩
                                · have e7 : decide (59 < q.f0) = false := decide_eq_false h59
                                  have hA := HA4.out
                                  rw [e7, Bool.or_false] at hA
                                  have HA5 := Aside0.mk hA
                                  clear hA HA4
                                  go_wp2_with (fail)
                                  go_roundg k1
                                  case measure => omega
                                  case rel => exact ⟨_, _, _, i + 1, rfl, rfl, rfl, by rw [Int.natCast_add]; rfl, ⟨⟨by omega, by omega, HA5.out, HR4.out, HB4.out⟩⟩⟩
                            · rw [if_neg hgd] at hA; cases hA
                          · rw [if_neg h2] at hA
                            obtain rfl := Option.some.inj hA
                            have h := HF.out
                            obtain ⟨N1, N2⟩ := Prod.mk.inj (Option.some.inj h)
                            subst N1 N2
                            clear h hA HF HA3 hdr
                            have X := clock_group_two.calls q.f0 q.f1 false (wr.alloc (.cells #[.int .i64 q.f0, .int .i64 q.f1] 45)) (by unfold clock_group_two.f; simpa using h2)
                            with_reducible refine X.mono ?_
                            clear X
                            rintro e w3 ⟨rfl, hb⟩
                            have HB4 := Aside0.mk (below_step (below_alloc HB3.out _) hb)
                            clear hb
                            go_wp2_with (fail)
                            go_ret2
                            exact ⟨rfl, HB4.out⟩
                        · have hii := hi
                          have hix : decide ((i : Int) < ((l.length - 1 : Nat) : Int)) = false := decide_eq_false (by omega)
                          have hd0 : l.drop (i + 1) = [] := List.drop_eq_nil_of_le (by omega)
                          rw [hd0] at hA
                          simp only [coLoop] at hA
                          obtain rfl := Option.some.inj hA
                          have h := HF.out
                          simp only at h
                          have HB9 := Aside0.mk hB
                          clear hA hd0 HF hR hB
                          by_cases hn0 : 0 ≤ n
                          · rw [if_pos hn0] at h
                            cases mo with
                            | true =>
                              rw [if_pos rfl] at h
                              obtain ⟨N1, N2⟩ := Prod.mk.inj (Option.some.inj h)
                              subst N1 N2
                              clear h
                              go_wp2_with (fail)
                              go_ret2
                              exact ⟨by first | rfl | simp, HB9.out⟩
                            | false =>
                              rw [if_neg Bool.false_ne_true] at h
                              by_cases hn1 : 57599 < n
                              · have e9 : decide (57599 < n) = true := decide_eq_true hn1
                                rw [if_pos hn1] at h
                                obtain ⟨N1, N2⟩ := Prod.mk.inj (Option.some.inj h)
                                subst N1 N2
                                clear h
                                go_wp2_with (fail)
                                go_ret2
                                exact ⟨by first | rfl | simp, HB9.out⟩
                              · have e9 : decide (57599 < n) = false := decide_eq_false hn1
                                rw [if_neg hn1] at h
                                by_cases hm : bt a0 0 = 45
                                · have e8 : (bt a0 0 == 45) = true := by simpa using hm
                                  rw [if_pos hm] at h
                                  obtain ⟨N1, N2⟩ := Prod.mk.inj (Option.some.inj h)
                                  subst N1 N2
                                  clear h
                                  go_wp2_with (fail)
                                  go_ret2
                                  exact ⟨by first | rfl | simp, HB9.out⟩
                                · have e8 : (bt a0 0 == 45) = false := by simpa using hm
                                  rw [if_neg hm] at h
                                  obtain ⟨N1, N2⟩ := Prod.mk.inj (Option.some.inj h)
                                  subst N1 N2
                                  clear h
                                  go_wp2_with (fail)
                                  go_ret2
                                  exact ⟨by first | rfl | simp, HB9.out⟩
                          · rw [if_neg hn0] at h; cases h
                · rw [if_neg hgd] at h; cases h
              · rw [if_neg ho] at h
                obtain ⟨N1, N2⟩ := Prod.mk.inj (Option.some.inj h)
                subst N1 N2
                clear h
                have X := clock_group_one.calls (rd_T45 l 0).f0 (rd_T45 l 0).f1 false w1 (by unfold clock_group_one.f; rw [if_neg (fun q => ho (.inl q))]; simp; exact fun q => ho (.inr q))
                with_reducible refine X.mono ?_
                clear X
                rintro e w2 ⟨rfl, hb⟩
                have HB2 := Aside0.mk (below_step HB.out hb)
                clear hb
                go_wp2_with (fail)
                go_ret2
                exact ⟨rfl, HB2.out⟩
            · have e5 : (sg.toList == ([58] : List UInt8)) = false := by simpa using e4
              have e5n : (sg.toList != ([58] : List UInt8)) = true := by simpa using e4
              by_cases e6 : sg.toList = ([58, 58] : List UInt8)
              · have e7 : (sg.toList == ([58, 58] : List UInt8)) = true := by simpa using e6
                have e7n : (sg.toList != ([58, 58] : List UInt8)) = false := by simpa using e6
                go_wp2_with (fail)
                have h := HM.out
                unfold coMid at h
                rw [if_pos (.inr (.inr e6)), if_pos hl] at h
                clear HM
                by_cases ho : (rd_T45 l 0).f1 = 1 ∨ (rd_T45 l 0).f1 = 2
                · rw [if_pos ho] at h
                  have HE := Aside0.mk h
                  clear h
                  have X := clock_group_one.calls (rd_T45 l 0).f0 (rd_T45 l 0).f1 true w1 (by unfold clock_group_one.f; rcases ho with q | q <;> simp [q])
                  with_reducible refine X.mono ?_
                  clear X
                  rintro e w2 ⟨rfl, hb⟩
                  have HR2 := Aside0.mk (Kd.R_below HR.out hb)
                  have HB2 := Aside0.mk (below_step HB.out hb)
                  clear hb
                  obtain ⟨ad, ead, hy0, hy1⟩ := at_T45 (Kd.R_reads' HR2.out).2.2 0 (by omega) (by omega)
                  injection ead with ead
                  subst ead
                  rw [show (0 : Int).toNat * 2 = 0 from rfl, Addr.add_zero'] at hy0 hy1
                  have h := HE.out
                  unfold coEnd at h
                  by_cases hgd : 0 ≤ (rd_T45 l 0).f0 ∧ (rd_T45 l 0).f0 ≤ 999999 ∧ 0 < l.length ∧ l.length ≤ 1000000
                  · rw [if_pos hgd] at h
                    obtain ⟨g1, g2, g3, g4⟩ := hgd
                    have H := Aside0.mk h
                    clear h HE
                    obtain ⟨res, hcl, h⟩ := Option.bind_eq_some_iff.mp H.out
                    have HL := Aside0.mk hcl
                    have HF := Aside0.mk h
                    clear hcl h H
                    have hcap := (co_lt HR2.out (by omega)).2
                    by_cases hc1 : cap = 1
                    · subst hc1
                      go_wp2_with (fail)
                      go_loopg [7, 8, 9, 85] l.length (fun kq v7 v8 v9 v85 w' => ∃ (n u : Int) (mo : Bool) (i : Nat), v7 = .int .i64 n ∧ v8 = .int .i64 u ∧ v9 = .bool mo ∧ v85 = .int .i64 i ∧ Aside0 (CoInv l res w (.slice (some ⟨g, 0, none⟩) l.length 1) kq n u mo i w'))
                      case atStart => exact ⟨_, _, _, 0, rfl, rfl, rfl, rfl, ⟨⟨by omega, by omega, by rw [List.drop_one]; exact HL.out, HR2.out, HB2.out⟩⟩⟩
                      case round =>
                        clear HL HR2 HB2
                        obtain ⟨n, u, mo, i, rfl, rfl, rfl, rfl, HI⟩ := hrel
                        obtain ⟨hi1, hi2, hA, hR, hB⟩ := HI.out
                        clear HI
                        cases gk with
                        | zero => omega
                        | succ k1 =>
                          have hix : decide ((i : Int) < ((l.length - 1 : Nat) : Int)) = false := decide_eq_false (by omega)
                          have hd0 : l.drop (i + 1) = [] := List.drop_eq_nil_of_le (by omega)
                          rw [hd0] at hA
                          simp only [coLoop] at hA
                          obtain rfl := Option.some.inj hA
                          have h := HF.out
                          simp only at h
                          have HB9 := Aside0.mk hB
                          clear hA hd0 HF hR hB
                          by_cases hn0 : 0 ≤ n
                          · rw [if_pos hn0] at h
                            cases mo with
                            | true =>
                              rw [if_pos rfl] at h
                              obtain ⟨N1, N2⟩ := Prod.mk.inj (Option.some.inj h)
                              subst N1 N2
                              clear h
                              go_wp2_with (fail)
                              go_ret2
                              exact ⟨by first | rfl | simp, HB9.out⟩
                            | false =>
                              rw [if_neg Bool.false_ne_true] at h
                              by_cases hn1 : 57599 < n
                              · have e9 : decide (57599 < n) = true := decide_eq_true hn1
                                rw [if_pos hn1] at h
                                obtain ⟨N1, N2⟩ := Prod.mk.inj (Option.some.inj h)
                                subst N1 N2
                                clear h
                                go_wp2_with (fail)
                                go_ret2
                                exact ⟨by first | rfl | simp, HB9.out⟩
                              · have e9 : decide (57599 < n) = false := decide_eq_false hn1
                                rw [if_neg hn1] at h
                                by_cases hm : bt a0 0 = 45
                                · have e8 : (bt a0 0 == 45) = true := by simpa using hm
                                  rw [if_pos hm] at h
                                  obtain ⟨N1, N2⟩ := Prod.mk.inj (Option.some.inj h)
                                  subst N1 N2
                                  clear h
                                  go_wp2_with (fail)
                                  go_ret2
                                  exact ⟨by first | rfl | simp, HB9.out⟩
                                · have e8 : (bt a0 0 == 45) = false := by simpa using hm
                                  rw [if_neg hm] at h
                                  obtain ⟨N1, N2⟩ := Prod.mk.inj (Option.some.inj h)
                                  subst N1 N2
                                  clear h
                                  go_wp2_with (fail)
                                  go_ret2
                                  exact ⟨by first | rfl | simp, HB9.out⟩
                          · rw [if_neg hn0] at h; cases h
                    · have hc1b : (cap == 1) = false := by simpa using hc1
                      go_wp2_with (fail)
                      go_loopg [7, 8, 9, 85] l.length (fun kq v7 v8 v9 v85 w' => ∃ (n u : Int) (mo : Bool) (i : Nat), v7 = .int .i64 n ∧ v8 = .int .i64 u ∧ v9 = .bool mo ∧ v85 = .int .i64 i ∧ Aside0 (CoInv l res w (.slice (some ⟨g, 0, none⟩) l.length cap) kq n u mo i w'))
                      case atStart => exact ⟨_, _, _, 0, rfl, rfl, rfl, rfl, ⟨⟨by omega, by omega, by rw [List.drop_one]; exact HL.out, HR2.out, HB2.out⟩⟩⟩
                      case round =>
                        clear HL HR2 HB2
                        obtain ⟨n, u, mo, i, rfl, rfl, rfl, rfl, HI⟩ := hrel
                        obtain ⟨hi1, hi2, hA, hR, hB⟩ := HI.out
                        clear HI
                        cases gk with
                        | zero => omega
                        | succ k1 =>
                          by_cases hi : i + 1 < l.length
                          · obtain ⟨ad, ead, hc0, hc1'⟩ := at_T45 (Kd.R_reads' hR).2.2 ((i : Int) + 1) (by omega) (by omega)
                            injection ead with ead
                            subst ead
                            rw [show ((i : Int) + 1).toNat * 2 = 2 + i * 2 by omega, Go.Proofs.YtecijnjnhdjokaaW.PrintWords.add_plain] at hc0 hc1'
                            have hgs := (co_lt hR (by omega)).1
                            have hne1 : g ≠ wr.heap.size := by omega
                            have hne2 : wr.heap.size ≠ g := by omega
                            have hix : decide ((i : Int) < ((l.length - 1 : Nat) : Int)) = true := decide_eq_true (by omega)
                            have HR3 := Aside0.mk hR
                            have HB3 := Aside0.mk hB
                            have HA3 := Aside0.mk hA
                            clear hR hB hA
                            go_wp2_with (fail)
                            have hdr : l.drop (i + 1) = rd_T45 l ((i : Int) + 1) :: l.drop (i + 2) := by
                              rw [List.drop_eq_getElem_cons (by omega)]
                              congr 1
                              unfold rd_T45
                              rw [show ((i : Int) + 1).toNat = i + 1 by omega, List.getD_eq_getElem?_getD, List.getElem?_eq_getElem (by omega)]
                              rfl
                            have hA := HA3.out
                            rw [hdr] at hA
                            generalize rd_T45 l ((i : Int) + 1) = q at hA hc0 hc1'
                            simp only [coLoop] at hA
                            by_cases h2 : q.f1 = 2
                            · rw [if_pos h2] at hA
                              by_cases hgd : (0 ≤ q.f0 ∧ q.f0 ≤ 999999) ∧ (0 ≤ n ∧ n ≤ 100000000000) ∧ 0 ≤ u ∧ u ≤ 60
                              · rw [if_pos hgd] at hA
                                obtain ⟨⟨p1, p2⟩, ⟨p3, p4⟩, p5, p6⟩ := hgd
                                have HA4 := Aside0.mk hA
                                clear hA HA3 hdr
                                have X := clock_group_two.calls q.f0 q.f1 true (wr.alloc (.cells #[.int .i64 q.f0, .int .i64 q.f1] 45)) (by unfold clock_group_two.f; rw [h2]; rfl)
                                with_reducible refine X.mono ?_
                                clear X
                                rintro e w3 ⟨rfl, hb⟩
                                have hbx := blk_below (blk_new wr (.cells #[.int .i64 q.f0, .int .i64 q.f1] 45)) hb
                                have hb0 : w3.cell? ⟨wr.heap.size, 0, none⟩ = some (.int .i64 q.f0) := (blk_cell hbx 0).trans rfl
                                have HR4 := Aside0.mk (Kd.R_below (Kd.R_alloc HR3.out _) hb)
                                have HB4 := Aside0.mk (below_step (below_alloc HB3.out _) hb)
                                have hmul1 : 0 ≤ q.f0 * u := Int.mul_nonneg p1 p5
                                have hmul2 : q.f0 * u ≤ 999999 * 60 := Int.le_trans (Int.mul_le_mul_of_nonneg_right p2 p5) (Int.mul_le_mul_of_nonneg_left p6 (by decide))
                                clear hb hbx
                                cases mo with
                                | true =>
                                  go_wp2_with (fail)
                                  go_roundg k1
                                  case measure => omega
                                  case rel => exact ⟨_, _, _, i + 1, rfl, rfl, rfl, by rw [Int.natCast_add]; rfl, ⟨⟨by omega, by omega, HA4.out, HR4.out, HB4.out⟩⟩⟩
                                | false =>
                                  by_cases h59 : 59 < q.f0
                                  · have e7 : decide (59 < q.f0) = true := decide_eq_true h59
                                    have hA := HA4.out
                                    rw [e7, Bool.or_true] at hA
                                    have HA5 := Aside0.mk hA
                                    clear hA HA4
                                    go_wp2_with (fail)
                                    go_roundg k1
                                    case measure => omega
                                    case rel => exact ⟨_, _, _, i + 1, rfl, rfl, rfl, by rw [Int.natCast_add]; rfl, ⟨⟨by omega, by omega, HA5.out, HR4.out, HB4.out⟩⟩⟩
                                  · have e7 : decide (59 < q.f0) = false := decide_eq_false h59
                                    have hA := HA4.out
                                    rw [e7, Bool.or_false] at hA
                                    have HA5 := Aside0.mk hA
                                    clear hA HA4
                                    go_wp2_with (fail)
                                    go_roundg k1
                                    case measure => omega
                                    case rel => exact ⟨_, _, _, i + 1, rfl, rfl, rfl, by rw [Int.natCast_add]; rfl, ⟨⟨by omega, by omega, HA5.out, HR4.out, HB4.out⟩⟩⟩
                              · rw [if_neg hgd] at hA; cases hA
                            · rw [if_neg h2] at hA
                              obtain rfl := Option.some.inj hA
                              have h := HF.out
                              obtain ⟨N1, N2⟩ := Prod.mk.inj (Option.some.inj h)
                              subst N1 N2
                              clear h hA HF HA3 hdr
                              have X := clock_group_two.calls q.f0 q.f1 false (wr.alloc (.cells #[.int .i64 q.f0, .int .i64 q.f1] 45)) (by unfold clock_group_two.f; simpa using h2)
                              with_reducible refine X.mono ?_
                              clear X
                              rintro e w3 ⟨rfl, hb⟩
                              have HB4 := Aside0.mk (below_step (below_alloc HB3.out _) hb)
                              clear hb
                              go_wp2_with (fail)
                              go_ret2
                              exact ⟨rfl, HB4.out⟩
                          · have hii := hi
                            have hix : decide ((i : Int) < ((l.length - 1 : Nat) : Int)) = false := decide_eq_false (by omega)
                            have hd0 : l.drop (i + 1) = [] := List.drop_eq_nil_of_le (by omega)
                            rw [hd0] at hA
                            simp only [coLoop] at hA
                            obtain rfl := Option.some.inj hA
                            have h := HF.out
                            simp only at h
                            have HB9 := Aside0.mk hB
                            clear hA hd0 HF hR hB
                            by_cases hn0 : 0 ≤ n
                            · rw [if_pos hn0] at h
                              cases mo with
                              | true =>
                                rw [if_pos rfl] at h
                                obtain ⟨N1, N2⟩ := Prod.mk.inj (Option.some.inj h)
                                subst N1 N2
                                clear h
                                go_wp2_with (fail)
                                go_ret2
                                exact ⟨by first | rfl | simp, HB9.out⟩
                              | false =>
                                rw [if_neg Bool.false_ne_true] at h
                                by_cases hn1 : 57599 < n
                                · have e9 : decide (57599 < n) = true := decide_eq_true hn1
                                  rw [if_pos hn1] at h
                                  obtain ⟨N1, N2⟩ := Prod.mk.inj (Option.some.inj h)
                                  subst N1 N2
                                  clear h
                                  go_wp2_with (fail)
                                  go_ret2
                                  exact ⟨by first | rfl | simp, HB9.out⟩
                                · have e9 : decide (57599 < n) = false := decide_eq_false hn1
                                  rw [if_neg hn1] at h
                                  by_cases hm : bt a0 0 = 45
                                  · have e8 : (bt a0 0 == 45) = true := by simpa using hm
                                    rw [if_pos hm] at h
                                    obtain ⟨N1, N2⟩ := Prod.mk.inj (Option.some.inj h)
                                    subst N1 N2
                                    clear h
                                    go_wp2_with (fail)
                                    go_ret2
                                    exact ⟨by first | rfl | simp, HB9.out⟩
                                  · have e8 : (bt a0 0 == 45) = false := by simpa using hm
                                    rw [if_neg hm] at h
                                    obtain ⟨N1, N2⟩ := Prod.mk.inj (Option.some.inj h)
                                    subst N1 N2
                                    clear h
                                    go_wp2_with (fail)
                                    go_ret2
                                    exact ⟨by first | rfl | simp, HB9.out⟩
                            · rw [if_neg hn0] at h; cases h
                  · rw [if_neg hgd] at h; cases h
                · rw [if_neg ho] at h
                  obtain ⟨N1, N2⟩ := Prod.mk.inj (Option.some.inj h)
                  subst N1 N2
                  clear h
                  have X := clock_group_one.calls (rd_T45 l 0).f0 (rd_T45 l 0).f1 false w1 (by unfold clock_group_one.f; rw [if_neg (fun q => ho (.inl q))]; simp; exact fun q => ho (.inr q))
                  with_reducible refine X.mono ?_
                  clear X
                  rintro e w2 ⟨rfl, hb⟩
                  have HB2 := Aside0.mk (below_step HB.out hb)
                  clear hb
                  go_wp2_with (fail)
                  go_ret2
                  exact ⟨rfl, HB2.out⟩
              · have e7 : (sg.toList == ([58, 58] : List UInt8)) = false := by simpa using e6
                have e7n : (sg.toList != ([58, 58] : List UInt8)) = true := by simpa using e6
                have h := HM.out
                unfold coMid at h
                rw [if_neg (fun q => q.elim e0 (fun q => q.elim e4 e6))] at h
                obtain ⟨N1, N2⟩ := Prod.mk.inj (Option.some.inj h)
                subst N1 N2
                clear h HM
                go_wp2_with (fail)
                go_ret2
                exact ⟨rfl, HB.out⟩
      · rw [if_neg hl] at h; cases h


end Go.Proofs.Ytecijnjnhdjokaa.PClockF
