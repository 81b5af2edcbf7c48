-- Written by a program of this session (mkprint.py, over the kit's print), out of the translation and of the contracts that the session gives.
import Derived.Test.YtecijnjnhdjokaaPClockFx0
namespace Go.Proofs.Ytecijnjnhdjokaa.PClockF
open Go.RowKit Go.Proofs.YtecijnjnhdjokaaW.PrintWords Go.Proofs.YtecijnjnhdjokaaW.PrintLast Go.Proofs.YtecijnjnhdjokaaW.PrintMore
attribute [local go_sem] max2_int min2_int max_two min_two max_three min_three max_four min_four   -- for this text's walks alone
set_option linter.unusedVariables false
set_option linter.unusedSimpArgs false

/-! ### clock_groups: function 33 -/
/-- The last group. -/
def lastG (l : List S45) : S45 := rd_T45 l ((l.length : Int) - 1)
/-- 'clock.groups', from a place on. -/
def grLoop (s : ByteArray) : Nat → List S45 → ByteArray → Nat → Option (List S45 × ByteArray × Bool)
  | 0, _, _, _ => none
  | d + 1, l, sg, pos =>
    if pos < s.size then
      (if (48 ≤ (Utf8.decode s pos).1 ∧ (Utf8.decode s pos).1 ≤ 57) ∧ (lastG l).f1 < 6 then
        (if 0 ≤ (lastG l).f0 ∧ (lastG l).f0 ≤ 999999 ∧ 0 ≤ (lastG l).f1 then
          grLoop s d (l.set (l.length - 1) ⟨10 * (lastG l).f0 + (((Utf8.decode s pos).1 : Int) - 48), (lastG l).f1 + 1⟩) sg (pos + (Utf8.decode s pos).2)
        else none)
      else if (Utf8.decode s pos).1 = 58 ∨ (Utf8.decode s pos).1 = 46 then
        (if l.length < 4000000 ∧ sg.size ≤ 4000000 then grLoop s d (l ++ [⟨0, 0⟩]) (sg ++ Utf8.encode (Utf8.decode s pos).1) (pos + (Utf8.decode s pos).2) else none)
      else some ([], ⟨#[]⟩, false))
    else some (l, sg, true)
/-- 'clock.groups'. -/
def clock_groups.f (a0 : ByteArray) : Option ((List (S45)) × ByteArray × Bool) := grLoop a0 (a0.size + 1) [⟨0, 0⟩] ⟨#[]⟩ 0
theorem k45_mkM' (w : World) (base : Nat) (ok : Nat → Prop) (a : Int) (b : Int) : k45.M w base ok ⟨a, b⟩ [.int .i64 a, .int .i64 b] := k45_mkM w base ok ⟨a, b⟩
theorem gr_iter {ok : Nat → Prop} {base k pos pos' : Nat} {s : ByteArray} {w : World} {v : Value} {l : List S45} (h : Kd.R k45 45 w base ok v l) (hok : ∀ j, ok j → j ≠ k) : Kd.R k45 45 (w.iterAt k s pos') base ok v l :=
  Kd.R_step h (fun j hj _ => Lib.iterAt_other w k j s pos' (hok j hj))
theorem gr_grown {ok : Nat → Prop} {base k pos : Nat} {s : ByteArray} {w w1 : World} {v : Value} {l : List S45} (h : Kd.R k45 45 w base ok v l) (hok : ∀ j, ok j → j ≠ k) (hg : w.grownBy w1 v.ownBlock) (hi : w.heap[k]? = some (.stringIter s pos)) : w1.heap[k]? = some (.stringIter s pos) := by
  rw [hg.block k (Array.getElem?_eq_some_iff.1 hi).1 (fun e => hok k (h.1 k e.symm) rfl)]
  exact hi
theorem gr_open {ok : Nat → Prop} {base : Nat} {w : World} {v : Value} {l : List S45} (h : Kd.R k45 45 w base ok v l) (hn : l.length ≠ 0) : ∃ g cap, v = .slice (some ⟨g, 0, none⟩) l.length cap ∧ base ≤ g := by
  obtain ⟨inner, ho⟩ := Kd.R_own h
  rcases ho.2 with ⟨_, h0⟩ | ⟨g, cap, cur, hv, hg, _⟩
  · exact absurd h0 hn
  · exact ⟨g, cap, hv, hg⟩
theorem gr_free {ok : Nat → Prop} {base g cap : Nat} {w : World} {l : List S45} (h : Kd.R k45 45 w base ok (.slice (some ⟨g, 0, none⟩) l.length cap) l) (hn : l.length ≠ 0) (j : Nat) : w.frozen? ⟨g, j, none⟩ = false := by
  obtain ⟨inner, ho⟩ := Kd.R_own h
  rcases ho.2 with ⟨_, h0⟩ | ⟨g', cap', cur, hv, hg, hh, _⟩
  · exact absurd h0 hn
  · injection hv with h1 h2 h3
    injection h1 with h1
    injection h1 with h1
    subst h1
    simp [World.frozen?, hh]
theorem gr_width (s : ByteArray) (pos : Nat) (h : pos < s.size) : 1 ≤ (Utf8.decode s pos).2 := by
  by_cases ha : (s[pos]'h).toNat < 128
  · rw [decode_ascii s pos h ha]
    exact Nat.le_refl _
  · exact (decode_high s pos h (by omega)).2
theorem gr_end (s : ByteArray) (pos : Nat) (h : pos < s.size) : pos + (Utf8.decode s pos).2 ≤ s.size := by
  simp only [Utf8.decode]
  repeat' split
  all_goals simp_all
  all_goals omega
theorem gr_first (w : World) : Kd.R k45 45 (w.alloc (.cells #[.int .i64 0, .int .i64 0] 45)) w.heap.size (fun k => k ≠ w.heap.size + 1) (.slice (some ⟨w.heap.size, 0, none⟩) 1 1) [⟨0, 0⟩] := by
  refine ⟨fun k hk => ?_, ?_⟩
  · simp [Value.ownBlock] at hk
    omega
  · have hr : Reps (k45.M (w.alloc (.cells #[.int .i64 0, .int .i64 0] 45)) w.heap.size (fun k => k ≠ w.heap.size + 1 ∧ some k ≠ (Value.slice (some ⟨w.heap.size, 0, none⟩) 1 1).ownBlock)) k45.sz [(⟨0, 0⟩ : S45)] [.int .i64 0, .int .i64 0] := Reps.snoc (Reps.none _ _) (k45_mkM' _ _ _ 0 0) rfl
    exact ⟨_, ⟨rfl, .inr ⟨w.heap.size, 1, _, rfl, Nat.le_refl _, heap_alloc_new w _, Nat.le_refl _, by unfold maxLen; omega, rfl, rfl⟩⟩, hr⟩
def GrInv (s : ByteArray) (r : List S45 × ByteArray × Bool) (w : World) (kq : Nat) (v5 : Value) (sg : ByteArray) (w' : World) : Prop :=
  ∃ (l : List S45) (pos : Nat), pos ≤ s.size ∧ l.length ≠ 0 ∧ l.length ≤ 4000000 ∧ grLoop s kq l sg pos = some r ∧ Kd.R k45 45 w' w.heap.size (fun k => k ≠ w.heap.size + 1) v5 l ∧ w'.heap[w.heap.size + 1]? = some (.stringIter s pos) ∧ Below w.heap.size w w'
set_option maxHeartbeats 4000000 in
set_option maxRecDepth 100000 in
theorem clock_groups.calls (a0 : ByteArray) (r1 : List (S45)) (r2 : ByteArray) (r3 : Bool) (w : World) (h : clock_groups.f a0 = some (r1, r2, r3)) :
    Calls Try.prog 33 #[.string a0] w fun e w' => ∃ v0_ : Value, e = .returned (.tuple #[v0_, .string r2, .bool r3]) ∧ Kd.R k45 45 w' w.heap.size (fun _ => True) v0_ r1 ∧ Below w.heap.size w w' := by
  have hu45 := Try.underlying45
  have H := Aside0.mk (show grLoop a0 (a0.size + 1) [⟨0, 0⟩] ⟨#[]⟩ 0 = some (r1, r2, r3) from h)
  clear h
  have HF := Aside0.mk (gr_first w)
  go_enter Try.func33, Try.ntmps33
  go_wp2
  go_loopg [5, 6] (a0.size + 1) (fun kq v5 v6 w' => ∃ sg : ByteArray, v6 = .string sg ∧ Aside0 (GrInv a0 (r1, r2, r3) w kq v5 sg w'))
  case atStart =>
    refine ⟨⟨#[]⟩, rfl, ⟨[⟨0, 0⟩], 0, Nat.zero_le _, by simp, by simp, H.out, ?_, ?_, ?_⟩⟩
    · exact Kd.R_alloc HF.out _
    · have h := World.iter_heap (w.alloc (.cells #[.int .i64 0, .int .i64 0] 45)) a0 0
      rw [show (w.alloc (.cells #[.int .i64 0, .int .i64 0] 45)).heap.size = w.heap.size + 1 from Array.size_push _] at h
      exact h
    · exact ((Below.refl _ w).alloc (Nat.le_refl _) _).alloc (by show w.heap.size ≤ (w.heap.push _).size; rw [Array.size_push]; omega) _
  case round =>
    clear H HF
    obtain ⟨sg, rfl, HI⟩ := hrel
    obtain ⟨l, pos, hpos, hl0, hl, hA, hR, hit, hB⟩ := HI.out
    clear HI
    cases gk with
    | zero => exact absurd hA (by simp [grLoop])
    | succ k1 =>
      simp only [grLoop] at hA
      by_cases hp : pos < a0.size
      · rw [if_pos hp] at hA
        have hnx : ∀ ty, (Instr.next (.pointer (some ⟨w.heap.size + 1, 0, none⟩)) true ty).run Try.prog wr = _ := fun ty => Lib.run_next_any_at wr (w.heap.size + 1) a0 pos ty hit hp
        have hwd := gr_width a0 pos hp
        have HR := Aside0.mk (gr_iter (pos := pos) (pos' := pos + (Utf8.decode a0 pos).2) (s := a0) hR (fun _ hj => hj))
        have HIT := Aside0.mk (Lib.iterAt_heap wr (w.heap.size + 1) a0 pos (pos + (Utf8.decode a0 pos).2) hit)
        have HB := Aside0.mk (Lib.below_iterAt hB (k := w.heap.size + 1) (Nat.le_succ _) a0 (pos + (Utf8.decode a0 pos).2))
        have HP := Aside0.mk (show pos + (Utf8.decode a0 pos).2 ≤ a0.size from gr_end a0 pos hp)
        have HL := Aside0.mk hl
        have HW := Aside0.mk hwd
        have HL0 := Aside0.mk hl0
        clear hR hit hB hl hwd hpos
        generalize (Utf8.decode a0 pos).1 = c at hA hnx
        have HV := Aside0.mk hA
        clear hA
        obtain ⟨g, cap, hv, hg⟩ := gr_open HR.out hl0
        obtain ⟨j, hj⟩ : ∃ j, l.length = j + 1 := ⟨l.length - 1, by omega⟩
        subst hv
        obtain ⟨ad, ead, hx0, hx1⟩ := at_T45 (Kd.R_reads' HR.out).2.2 (j : Int) (by omega) (by omega)
        have hlp : lastG l = rd_T45 l (j : Int) := by unfold lastG; congr 1; omega
        injection ead with ead
        subst ead
        rw [Int.toNat_natCast, Go.Proofs.YtecijnjnhdjokaaW.PrintWords.add_plain] at hx0 hx1
        have HG := Aside0.mk hg
        have hj8 : j ≤ 4000000 := by have h1 := HL.out; omega
        have hRj := HR.out
        rw [hj] at hRj
        have HRJ := Aside0.mk hRj
        have HJ := Aside0.mk hj
        have HX0 := Aside0.mk hx0
        have HX1 := Aside0.mk hx1
        have hfr0 := gr_free HR.out hl0 (j * 2)
        have hfr1 := gr_free HR.out hl0 (j * 2 + 1)
        clear hRj hg
        have HV1 := HV.out
        rw [hlp] at HV1
        have hjl : l.length - 1 = j := by omega
        rw [hjl] at HV1
        clear hlp hjl HV
        generalize hq : rd_T45 l (j : Int) = q at hx0 hx1 HV1 HX0 HX1
        have HQ := Aside0.mk hq
        clear hq hl0
        rw [hj]
        clear hj
        by_cases hd : (48 ≤ c ∧ c ≤ 57) ∧ q.f1 < 6
        · rw [if_pos hd] at HV1
          by_cases hr : 0 ≤ q.f0 ∧ q.f0 ≤ 999999 ∧ 0 ≤ q.f1
          · rw [if_pos hr] at HV1
            have HV2 := Aside0.mk HV1
            clear HV1
            obtain ⟨⟨hd1, hd2⟩, hd3⟩ := hd
            obtain ⟨hr1, hr2, hr3⟩ := hr
            have b1 : decide ((48 : Int) ≤ (c : Int)) = true := decide_eq_true (by omega)
            have b2 : decide ((c : Int) ≤ 57) = true := decide_eq_true (by omega)
            have b3 : decide (q.f1 < 6) = true := decide_eq_true hd3
            go_wp2
            clear hx0 hx1
            have hcs : ∀ jj u, ([.int .i64 q.f0, .int .i64 q.f1] : List Value)[jj]? = some u → (wr.iterAt (w.heap.size + 1) a0 (pos + (Utf8.decode a0 pos).2)).cell? ⟨g, ((j : Nat) : Int).toNat * k45.sz + jj, none⟩ = some u := by
              intro jj u hu
              rw [Int.toNat_natCast]
              rcases jj with _ | _ | jj
              · obtain rfl := Option.some.inj hu; exact HX0.out
              · obtain rfl := Option.some.inj hu; exact HX1.out
              · cases hu
            obtain ⟨hrow, hgr⟩ := Kd.R_seg (okp := fun _ => False) (seg := [.int .i64 (10 * q.f0 + ((c : Int) - 48))]) (j := 0) (x' := (⟨10 * q.f0 + ((c : Int) - 48), q.f1⟩ : S45)) (c := [.int .i64 q.f0, .int .i64 q.f1]) HRJ.out ((j : Nat) : Int) (Int.natCast_nonneg _) (by omega) rfl hcs (by show 0 + 1 ≤ 2; decide) (k45_mkM' _ _ _ (10 * q.f0 + ((c : Int) - 48)) q.f1) (fun _ hk => hk.elim)
            rw [Int.toNat_natCast] at hrow hgr
            have hbel := Below.setCell (p := ⟨g, j * 2, none⟩) HB.out HG.out (.int .i64 (10 * q.f0 + ((c : Int) - 48)))
            have hit3 := gr_grown (s := a0) (pos := pos + (Utf8.decode a0 pos).2) (k := w.heap.size + 1) HRJ.out (fun _ hj => hj) hgr HIT.out
            have hcs2 : ∀ jj u, ([.int .i64 (10 * q.f0 + ((c : Int) - 48)), .int .i64 q.f1] : List Value)[jj]? = some u → ((wr.iterAt (w.heap.size + 1) a0 (pos + (Utf8.decode a0 pos).2)).setCell ⟨g, j * 2, none⟩ (.int .i64 (10 * q.f0 + ((c : Int) - 48)))).cell? ⟨g, ((j : Nat) : Int).toNat * k45.sz + jj, none⟩ = some u := by
              have hjl : (l.set j (⟨10 * q.f0 + ((c : Int) - 48), q.f1⟩ : S45)).length = j + 1 := by rw [List.length_set]; exact HJ.out
              obtain ⟨ad, ead, hx0, hx1⟩ := at_T45 (Kd.R_reads' hrow).2.2 (j : Int) (by omega) (by omega)
              injection ead with ead
              subst ead
              rw [Int.toNat_natCast, Go.Proofs.YtecijnjnhdjokaaW.PrintWords.add_plain] at hx0 hx1
              have hrd : rd_T45 (l.set j (⟨10 * q.f0 + ((c : Int) - 48), q.f1⟩ : S45)) (j : Int) = ⟨10 * q.f0 + ((c : Int) - 48), q.f1⟩ := by
                have hj : j < l.length := by have := HJ.out; omega
                simp [rd_T45, hj]
              rw [hrd] at hx0 hx1
              intro jj u hu
              rw [Int.toNat_natCast]
              rcases jj with _ | _ | jj
              · obtain rfl := Option.some.inj hu; exact hx0
              · obtain rfl := Option.some.inj hu; exact hx1
              · cases hu
            obtain ⟨hrow2, hgr2⟩ := Kd.R_seg (okp := fun _ => False) (seg := [.int .i64 (q.f1 + 1)]) (j := 1) (x' := (⟨10 * q.f0 + ((c : Int) - 48), q.f1 + 1⟩ : S45)) (c := [.int .i64 (10 * q.f0 + ((c : Int) - 48)), .int .i64 q.f1]) hrow ((j : Nat) : Int) (Int.natCast_nonneg _) (by omega) rfl hcs2 (by show 1 + 1 ≤ 2; decide) (k45_mkM' _ _ _ (10 * q.f0 + ((c : Int) - 48)) (q.f1 + 1)) (fun _ hk => hk.elim)
            rw [Int.toNat_natCast] at hrow2 hgr2
            rw [List.set_set] at hrow2
            have hrow3 := Aside0.mk hrow2
            have hit4 := Aside0.mk (gr_grown (s := a0) (pos := pos + (Utf8.decode a0 pos).2) (k := w.heap.size + 1) hrow (fun _ hj => hj) hgr2 hit3)
            have hbel2 := Aside0.mk (Below.setCell (p := ⟨g, j * 2 + 1, none⟩) hbel HG.out (.int .i64 (q.f1 + 1)))
            clear hrow hgr hbel hit3 hcs hcs2 hrow2 hgr2
            go_roundg k1
            case measure => omega
            case rel => exact ⟨_, rfl, ⟨_, _, HP.out, by rw [List.length_set]; exact HL0.out, by rw [List.length_set]; exact HL.out, HV2.out, hrow3.out, hit4.out, hbel2.out⟩⟩
          · rw [if_neg hr] at HV1; cases HV1
        · rw [if_neg hd] at HV1
          by_cases hs : c = 58 ∨ c = 46
          · rw [if_pos hs] at HV1
            by_cases hb : l.length < 4000000 ∧ sg.size ≤ 4000000
            · rw [if_pos hb] at HV1
              have HV2 := Aside0.mk HV1
              clear HV1 hd
              obtain ⟨hb1, hb2⟩ := hb
              have HB1 := Aside0.mk hb1
              clear hb1 hx0 hx1
              rcases hs with rfl | rfl
              · have b1 : decide ((48 : Int) ≤ ((58 : Nat) : Int)) = true := rfl
                have b2 : decide (((58 : Nat) : Int) ≤ 57) = false := rfl
                have b3 : (((58 : Nat) : Int) == 58) = true := rfl
                have hcat : ∀ W, (Op.stringOp .add sg (Utf8.encode 58)).run Try.prog W = .ok (.string (sg ++ Utf8.encode 58)) W := fun W => run_string_add_sum W _ _ (by show sg.size + 1 ≤ _; omega)
                go_wp2_with (((with_reducible refine gate_builtin (b := .append) (xs := #[.tmp 66, .tmp 68]) rfl ?_); at_builtin; refine Kd.R_append k45 (w0 := w) w.heap.size rfl (.tmp 66) (.tmp 68) 41 45 (.agg #[(.int .i64 0), (.int .i64 0)]) 16 rfl Try.underlying41 info45 rfl (by decide) (by omega) (.slice (some ⟨g, 0, none⟩) (j + 1) cap) l (⟨0, 0⟩ : S45) [.int .i64 0, .int .i64 0] (fun k => k ≠ w.heap.size + 1) (fun _ => False) rfl rfl ?aP (fun _ hk => hk.elim) ?aF ?aO ?aB ?aS ?aL ?_; (case aP => exact k45_mkM' _ _ _ 0 0); (case aF => exact fun k hk => by have h1 := (Array.getElem?_eq_some_iff.1 HIT.out).1; have h2 : (wr.iterAt (w.heap.size + 1) a0 (pos + (Utf8.decode a0 pos).2)).heap.size ≤ k := hk; omega); (case aO => have h := HR.out; rw [HJ.out] at h; exact h); (case aB => exact HB.out); (case aS => exact HB.out.size); (case aL => have h1 := HL.out; omega); intro v1 w1 ho hb hg hat; have hi1 := Aside0.mk (gr_grown (s := a0) (pos := pos + (Utf8.decode a0 pos).2) (k := w.heap.size + 1) HRJ.out (fun _ hj => hj) hg HIT.out); have ho1 := Aside0.mk ho; have hb1 := Aside0.mk hb; clear ho hb hg hat))
                go_roundg k1
                case measure => omega
                case rel => exact ⟨_, rfl, ⟨_, _, HP.out, by simp, by rw [List.length_append]; have h1 := HB1.out; simp; omega, HV2.out, ho1.out, hi1.out, hb1.out⟩⟩
              · have b1 : decide ((48 : Int) ≤ ((46 : Nat) : Int)) = false := rfl
                have b3 : (((46 : Nat) : Int) == 58) = false := rfl
                have b4 : (((46 : Nat) : Int) == 46) = true := rfl
                have hcat : ∀ W, (Op.stringOp .add sg (Utf8.encode 46)).run Try.prog W = .ok (.string (sg ++ Utf8.encode 46)) W := fun W => run_string_add_sum W _ _ (by show sg.size + 1 ≤ _; omega)
                go_wp2_with (((with_reducible refine gate_builtin (b := .append) (xs := #[.tmp 66, .tmp 68]) rfl ?_); at_builtin; refine Kd.R_append k45 (w0 := w) w.heap.size rfl (.tmp 66) (.tmp 68) 41 45 (.agg #[(.int .i64 0), (.int .i64 0)]) 16 rfl Try.underlying41 info45 rfl (by decide) (by omega) (.slice (some ⟨g, 0, none⟩) (j + 1) cap) l (⟨0, 0⟩ : S45) [.int .i64 0, .int .i64 0] (fun k => k ≠ w.heap.size + 1) (fun _ => False) rfl rfl ?aP (fun _ hk => hk.elim) ?aF ?aO ?aB ?aS ?aL ?_; (case aP => exact k45_mkM' _ _ _ 0 0); (case aF => exact fun k hk => by have h1 := (Array.getElem?_eq_some_iff.1 HIT.out).1; have h2 : (wr.iterAt (w.heap.size + 1) a0 (pos + (Utf8.decode a0 pos).2)).heap.size ≤ k := hk; omega); (case aO => have h := HR.out; rw [HJ.out] at h; exact h); (case aB => exact HB.out); (case aS => exact HB.out.size); (case aL => have h1 := HL.out; omega); intro v1 w1 ho hb hg hat; have hi1 := Aside0.mk (gr_grown (s := a0) (pos := pos + (Utf8.decode a0 pos).2) (k := w.heap.size + 1) HRJ.out (fun _ hj => hj) hg HIT.out); have ho1 := Aside0.mk ho; have hb1 := Aside0.mk hb; clear ho hb hg hat))
                go_roundg k1
                case measure => omega
                case rel => exact ⟨_, rfl, ⟨_, _, HP.out, by simp, by rw [List.length_append]; have h1 := HB1.out; simp; omega, HV2.out, ho1.out, hi1.out, hb1.out⟩⟩
            · rw [if_neg hb] at HV1; cases HV1
          · rw [if_neg hs] at HV1
            obtain ⟨h41, h42⟩ := Prod.mk.inj (Option.some.inj HV1)
            obtain ⟨h42, h43⟩ := Prod.mk.inj h42
            have N1 := Aside0.mk h41
            have N2 := Aside0.mk h42
            have N3 := Aside0.mk h43
            clear HV1 h41 h42 h43
            have b58 : ((c : Int) == 58) = false := by simp; omega
            have b46 : ((c : Int) == 46) = false := by simp; omega
            clear hs
            have hcase : decide ((48 : Int) ≤ (c : Int)) = false ∨ (decide ((48 : Int) ≤ (c : Int)) = true ∧ decide ((c : Int) ≤ 57) = false) ∨ (decide ((48 : Int) ≤ (c : Int)) = true ∧ decide ((c : Int) ≤ 57) = true ∧ decide (q.f1 < 6) = false) := by
              simp only [decide_eq_true_eq, decide_eq_false_iff_not]
              omega
            clear hd
            rcases hcase with b1 | ⟨b1, b2⟩ | ⟨b1, b2, b3⟩
            · go_wp2
              go_ret3
              exact ⟨_, by rw [← N2.out, ← N3.out]; rfl, by rw [← N1.out]; exact Kd.R_nil _ _ _ _ _, HB.out⟩
            · go_wp2
              go_ret3
              exact ⟨_, by rw [← N2.out, ← N3.out]; rfl, by rw [← N1.out]; exact Kd.R_nil _ _ _ _ _, HB.out⟩
            · go_wp2
              go_ret3
              exact ⟨_, by rw [← N2.out, ← N3.out]; rfl, by rw [← N1.out]; exact Kd.R_nil _ _ _ _ _, HB.out⟩
      · rw [if_neg hp] at hA
        obtain ⟨h41, h42⟩ := Prod.mk.inj (Option.some.inj hA)
        obtain ⟨h42, h43⟩ := Prod.mk.inj h42
        have N1 := Aside0.mk h41
        have N2 := Aside0.mk h42
        have N3 := Aside0.mk h43
        have hnx : ∀ ty, (Instr.next (.pointer (some ⟨w.heap.size + 1, 0, none⟩)) true ty).run Try.prog wr = _ := fun ty => Lib.run_next_end_at wr (w.heap.size + 1) a0 pos ty hit hp
        have HR := Aside0.mk hR
        have HB := Aside0.mk hB
        clear hA h41 h42 h43 hR hB hit
        go_wp2
        go_ret3
        exact ⟨_, by rw [← N2.out, ← N3.out]; rfl, by rw [← N1.out]; exact Kd.R_mono HR.out (fun _ _ => trivial), HB.out⟩


/-! ### clock_group_one: function 34 -/
def clock_group_one.f (a0_0 : Int) (a0_1 : Int) : Option (Bool) := if a0_1 = 1 then (some true) else (some (a0_1 == 2))
set_option maxHeartbeats 8000000 in
set_option maxRecDepth 100000 in
theorem clock_group_one.calls (a0_0 : Int) (a0_1 : Int) (r : Bool) (w : World) (h : clock_group_one.f a0_0 a0_1 = some r) :
    Calls Try.prog 34 #[.agg #[.int .i64 a0_0, .int .i64 a0_1]] w fun e w' => e = .returned (.bool r) ∧ Below w.heap.size w w' := by
  have hu45 := Try.underlying45
  have HB := Aside0.mk (Below.refl w.heap.size w)
  have H : (if a0_1 = 1 then (some true) else (some (a0_1 == 2))) = some r := h
  clear h
  by_cases c2 : a0_1 = 1
  · rw [if_pos c2] at H
    have c2b0 : (a0_1 == 1) = true := beq_iff_eq.mpr c2
    have c2b1 : (a0_1 != 1) = false := bne_eq_false_iff_eq.mpr c2
    clear c2
    obtain rfl := Option.some.inj H
    go_enter Try.func34, Try.ntmps34
    go_wp2_with (first | ((with_reducible refine gate_dst (N := 1) rfl ?_); refine box_event ?hg (N := 1) ?hd (cs := #[.int .i64 a0_0, .int .i64 a0_1]) (t := 45) ?hr ?_; (case hd => rfl); (case hg => rfl); (case hr => first | (go_simp; done) | (go_simp; rfl)); intro gb124 hg w3 hbox hb; have n0_ := Aside0.mk (below_step (by repeat (first | (with_reducible first | exact HB.out | apply below_alloc | apply pw_below_drewN | apply below_drew1) | exact HB.out)) hb); have n1_ := Aside0.mk (hbox); have n2_ := Aside0.mk ((by rw [hg]; exact (below_size (by repeat (first | (with_reducible first | exact HB.out | apply below_alloc | apply pw_below_drewN | apply below_drew1) | exact HB.out))) : w.heap.size ≤ gb124)); have n3_ := Aside0.mk ((by rw [hg]; exact (below_size (by repeat (first | (with_reducible first | exact HB.out | apply below_alloc | apply pw_below_drewN | apply below_drew1) | exact HB.out))) : w.heap.size ≤ gb124)); clear HB; have HB := n0_; have BK124 := n1_; have GW124 := n2_; have GE124 := n3_; clear n0_ n1_ n2_ n3_; clear hb hbox hg; have hcz4_0 : w3.cell? ⟨gb124, 0, none⟩ = some (.int .i64 a0_0) := (blk_cell BK124.out 0).trans rfl; have hcz4_1 : w3.cell? ⟨gb124, 1, none⟩ = some (.int .i64 a0_1) := (blk_cell BK124.out 1).trans rfl; have hfz4_0 := blk_frozen BK124.out 0; have hfz4_1 := blk_frozen BK124.out 1))
    go_ret
    exact ⟨by first | rfl | (simp [errW_none, errW_some] <;> rfl) | (simp [*, errW_none, errW_some] <;> rfl), by repeat (first | (with_reducible first | exact HB.out | apply below_alloc | apply pw_below_drewN | apply below_drew1 | refine below_set ?_ GE124.out) | exact HB.out)⟩
  · rw [if_neg c2] at H
    have c2b0 : (a0_1 == 1) = false := beq_eq_false_iff_ne.mpr c2
    have c2b1 : (a0_1 != 1) = true := bne_iff_ne.mpr c2
    obtain rfl := Option.some.inj H
    go_enter Try.func34, Try.ntmps34
    go_wp2_with (first | ((with_reducible refine gate_dst (N := 1) rfl ?_); refine box_event ?hg (N := 1) ?hd (cs := #[.int .i64 a0_0, .int .i64 a0_1]) (t := 45) ?hr ?_; (case hd => rfl); (case hg => rfl); (case hr => first | (go_simp; done) | (go_simp; rfl)); intro gb124 hg w5 hbox hb; have n0_ := Aside0.mk (below_step (by repeat (first | (with_reducible first | exact HB.out | apply below_alloc | apply pw_below_drewN | apply below_drew1) | exact HB.out)) hb); have n1_ := Aside0.mk (hbox); have n2_ := Aside0.mk ((by rw [hg]; exact (below_size (by repeat (first | (with_reducible first | exact HB.out | apply below_alloc | apply pw_below_drewN | apply below_drew1) | exact HB.out))) : w.heap.size ≤ gb124)); have n3_ := Aside0.mk ((by rw [hg]; exact (below_size (by repeat (first | (with_reducible first | exact HB.out | apply below_alloc | apply pw_below_drewN | apply below_drew1) | exact HB.out))) : w.heap.size ≤ gb124)); clear HB; have HB := n0_; have BK124 := n1_; have GW124 := n2_; have GE124 := n3_; clear n0_ n1_ n2_ n3_; clear hb hbox hg; have hcz6_0 : w5.cell? ⟨gb124, 0, none⟩ = some (.int .i64 a0_0) := (blk_cell BK124.out 0).trans rfl; have hcz6_1 : w5.cell? ⟨gb124, 1, none⟩ = some (.int .i64 a0_1) := (blk_cell BK124.out 1).trans rfl; have hfz6_0 := blk_frozen BK124.out 0; have hfz6_1 := blk_frozen BK124.out 1))
    go_ret
    exact ⟨by first | rfl | (simp [errW_none, errW_some] <;> rfl) | (simp [*, errW_none, errW_some] <;> rfl), by repeat (first | (with_reducible first | exact HB.out | apply below_alloc | apply pw_below_drewN | apply below_drew1 | refine below_set ?_ GE124.out) | exact HB.out)⟩

/-! ### clock_group_two: function 35 -/
def clock_group_two.f (a0_0 : Int) (a0_1 : Int) : Option (Bool) := some (a0_1 == 2)
set_option maxHeartbeats 8000000 in
set_option maxRecDepth 100000 in
theorem clock_group_two.calls (a0_0 : Int) (a0_1 : Int) (r : Bool) (w : World) (h : clock_group_two.f a0_0 a0_1 = some r) :
    Calls Try.prog 35 #[.agg #[.int .i64 a0_0, .int .i64 a0_1]] w fun e w' => e = .returned (.bool r) ∧ Below w.heap.size w w' := by
  have hu45 := Try.underlying45
  have HB := Aside0.mk (Below.refl w.heap.size w)
  have H : (some (a0_1 == 2)) = some r := h
  clear h
  obtain rfl := Option.some.inj H
  go_enter Try.func35, Try.ntmps35
  go_wp2_with (first | ((with_reducible refine gate_dst (N := 1) rfl ?_); refine box_event ?hg (N := 1) ?hd (cs := #[.int .i64 a0_0, .int .i64 a0_1]) (t := 45) ?hr ?_; (case hd => rfl); (case hg => rfl); (case hr => first | (go_simp; done) | (go_simp; rfl)); intro gb125 hg w2 hbox hb; have n0_ := Aside0.mk (below_step (by repeat (first | (with_reducible first | exact HB.out | apply below_alloc | apply pw_below_drewN | apply below_drew1) | exact HB.out)) hb); have n1_ := Aside0.mk (hbox); have n2_ := Aside0.mk ((by rw [hg]; exact (below_size (by repeat (first | (with_reducible first | exact HB.out | apply below_alloc | apply pw_below_drewN | apply below_drew1) | exact HB.out))) : w.heap.size ≤ gb125)); have n3_ := Aside0.mk ((by rw [hg]; exact (below_size (by repeat (first | (with_reducible first | exact HB.out | apply below_alloc | apply pw_below_drewN | apply below_drew1) | exact HB.out))) : w.heap.size ≤ gb125)); clear HB; have HB := n0_; have BK125 := n1_; have GW125 := n2_; have GE125 := n3_; clear n0_ n1_ n2_ n3_; clear hb hbox hg; have hcz3_0 : w2.cell? ⟨gb125, 0, none⟩ = some (.int .i64 a0_0) := (blk_cell BK125.out 0).trans rfl; have hcz3_1 : w2.cell? ⟨gb125, 1, none⟩ = some (.int .i64 a0_1) := (blk_cell BK125.out 1).trans rfl; have hfz3_0 := blk_frozen BK125.out 0; have hfz3_1 := blk_frozen BK125.out 1))
  go_ret
  exact ⟨by first | rfl | (simp [errW_none, errW_some] <;> rfl) | (simp [*, errW_none, errW_some] <;> rfl), by repeat (first | (with_reducible first | exact HB.out | apply below_alloc | apply pw_below_drewN | apply below_drew1 | refine below_set ?_ GE125.out) | exact HB.out)⟩

end Go.Proofs.Ytecijnjnhdjokaa.PClockF
