-- Written by a program of this session (mkprint.py, over the kit's print), out of the translation and of the contracts that the session gives.
import Derived.Test.YtohhmnbcaflppaaDoorPLinex0
namespace Go.Proofs.YtohhmnbcaflppaaDoor.PLine
open Go.RowKit Go.Proofs.YtohhmnbcaflppaaDoorW.PrintWords Go.Proofs.YtohhmnbcaflppaaDoorW.PrintLast Go.Proofs.YtohhmnbcaflppaaDoorW.PrintMore
attribute [local go_sem] max2_int min2_int max_two min_two max_three min_three max_four min_four   -- for this text's walks alone
set_option linter.unusedVariables false
set_option linter.unusedSimpArgs false

/-! ### line_Split: function 8 -/
open Go.Proofs.YtohhmnbcaflppaaDoor.Rd
/-- The lines that have fields, from a line on. -/
def spL : List ByteArray → Int → List S43 → List S43 × Int × Int
  | [], _, out => (out, 0, 0)
  | p :: r, i, out =>
    if (fieldsR p).2 = false then ([], i + 1, 21)
    else if (fieldsR p).1.length = 0 then spL r (i + 1) out
    else if 16 < (fieldsR p).1.length ∨ out.length = 400 then ([], i + 1, 3)
    else spL r (i + 1) (out ++ [⟨i + 1, (fieldsR p).1⟩])
/-- 'line.Split'. -/
def line_Split.f (a0 : ByteArray) : Option ((List (S43)) × Int × Int) := if 8192 < a0.size then some ([], 0, 3) else some (spL (linesOf a0) 0 [])
def SpInv (w : World) (ls : List ByteArray) (r : List S43 × Int × Int) (kq : Nat) (v5 : Value) (i : Nat) (w' : World) : Prop :=
  ∃ out : List S43, i ≤ ls.length ∧ kq = ls.length - i + 1 ∧ out.length ≤ 400 ∧ spL (ls.drop i) i out = r ∧ Kd.S k43 43 w' w.heap.size (fun k => k ≠ w.heap.size) v5 out ∧ w'.heap[w.heap.size]? = some (.cells (ls.map Value.string).toArray 9 (0, 0)) ∧ Below w.heap.size w w'
theorem sp_cons (ls : List ByteArray) (i : Nat) (out : List S43) (h : i < ls.length) : spL (ls.drop i) i out = (if (fieldsR (ls[i]'h)).2 = false then ([], (i : Int) + 1, 21) else if (fieldsR (ls[i]'h)).1.length = 0 then spL (ls.drop (i + 1)) ((i : Int) + 1) out else if 16 < (fieldsR (ls[i]'h)).1.length ∨ out.length = 400 then ([], (i : Int) + 1, 3) else spL (ls.drop (i + 1)) ((i : Int) + 1) (out ++ [⟨(i : Int) + 1, (fieldsR (ls[i]'h)).1⟩])) := by
  rw [List.drop_eq_getElem_cons h]
  rfl
theorem pieces_at (w : World) (g : Nat) (ls : List ByteArray) (i : Nat) (h : i < ls.length) (hb : w.heap[g]? = some (.cells (ls.map Value.string).toArray 9 (0, 0))) : w.cell? ⟨g, i, none⟩ = some (.string (ls[i]'h)) := by
  rw [blk_cell hb]
  simp [h]
set_option maxHeartbeats 4000000 in
set_option maxRecDepth 100000 in
theorem line_Split.calls (a0 : ByteArray) (r1 : List (S43)) (r2 : Int) (r3 : Int) (w : World) (h : line_Split.f a0 = some (r1, r2, r3)) :
    Calls Tryd.prog 8 #[.string a0] w fun e w' => ∃ v0_ : Value, e = .returned (.tuple #[v0_, .int .i64 r2, .int .i64 r3]) ∧ Kd.S k43 43 w' w.heap.size (fun _ => True) v0_ r1 ∧ Below w.heap.size w w' := by
  have hu43 := Tryd.underlying43
  unfold line_Split.f at h
  by_cases c2 : 8192 < a0.size
  · rw [if_pos c2] at h
    have c2b0 : decide (8192 < (a0.size : Int)) = true := decide_eq_true (by omega)
    have c2b1 : decide (8192 < a0.size) = true := decide_eq_true (by omega)
    clear c2
    simp only [Option.some.injEq, Prod.mk.injEq] at h
    obtain ⟨rfl, rfl, rfl⟩ := h
    go_enter Tryd.func8, Tryd.ntmps8
    go_wp2
    go_ret3
    exact ⟨_, rfl, Kd.S_nil _ _ _ _ _, Below.refl _ _⟩
  · rw [if_neg c2] at h
    have c2b0 : decide (8192 < (a0.size : Int)) = false := decide_eq_false (by omega)
    have c2b1 : decide (8192 < a0.size) = false := decide_eq_false (by omega)
    have HS := Aside0.mk (show a0.size ≤ 8192 by omega)
    have H := Aside0.mk (Option.some.inj h)
    have hll := lines_le a0
    have HSZ := Aside0.mk (fun p hp => lines_size a0 p hp)
    have HSP := Aside0.mk (splitLines a0 w (by omega))
    clear h
    generalize linesOf a0 = ls at H hll HSZ HSP
    have hls : ls.length ≤ 8193 := by omega
    clear c2 hll
    go_enter Tryd.func8, Tryd.ntmps8
    go_wp2_with (go_at_call 16; refine HSP.out.mono ?_; rintro e w1 ⟨rfl, rfl⟩)
    go_loopg [5, 16] (ls.length + 1) (fun kq v5 v16 w' => ∃ i : Nat, v16 = .int .i64 i ∧ Aside0 (SpInv w ls (r1, r2, r3) kq v5 i w'))
    case atStart =>
      exact ⟨0, rfl, ⟨[], Nat.zero_le _, rfl, Nat.zero_le _, H.out, Kd.S_nil _ _ _ _ _, heap_alloc_new w _, below_alloc (Below.refl _ _) _⟩⟩
    case round =>
      clear H c2b0 c2b1 HSP
      obtain ⟨i, rfl, HI⟩ := hrel
      obtain ⟨out, hi, hk, ho, hA, hR, hpc, hB⟩ := HI.out
      clear HI
      by_cases hp : i < ls.length
      · rw [sp_cons ls i out hp] at hA
        have hcell := pieces_at wr w.heap.size ls i hp hpc
        have hsz := HSZ.out (ls[i]'hp) (List.getElem_mem hp)
        have hps : (ls[i]'hp).size ≤ 100000 := by have := HS.out; omega
        have HF := Aside0.mk (fields_any (ls[i]'hp) wr hps)
        revert hA hcell HF
        generalize ls[i]'hp = pc
        intro hA hcell HF
        have HR := Aside0.mk hR
        have HPC := Aside0.mk hpc
        have HB := Aside0.mk hB
        have HV := Aside0.mk hA
        have HK := Aside0.mk hk
        have HO := Aside0.mk ho
        clear hR hpc hB hA hk hsz hps ho
        obtain ⟨fl, ok, hfe⟩ : ∃ fl ok, fieldsR pc = (fl, ok) := ⟨_, _, rfl⟩
        have HV2 := Aside0.mk (show (if ok = false then ([], (i : Int) + 1, 21) else if fl.length = 0 then spL (ls.drop (i + 1)) ((i : Int) + 1) out else if 16 < fl.length ∨ out.length = 400 then ([], (i : Int) + 1, 3) else spL (ls.drop (i + 1)) ((i : Int) + 1) (out ++ [⟨(i : Int) + 1, fl⟩])) = (r1, r2, r3) by have h1 := HV.out; rw [hfe] at h1; exact h1)
        have HF2 := Aside0.mk (show Calls Tryd.prog 17 #[.string pc] wr fun e w' => ∃ v, e = .returned (.tuple #[v, .bool ok]) ∧ w'.ownsRow wr.heap.size 9 1 v fl.length (pw_strs fl) ∧ Below wr.heap.size wr w' by have h1 := HF.out; rw [hfe] at h1; exact h1)
        clear HV HF hfe
        cases ok with
        | false =>
          have A := HV2.out
          rw [if_pos rfl] at A
          obtain ⟨q1, q2⟩ := Prod.mk.inj A
          obtain ⟨q2, q3⟩ := Prod.mk.inj q2
          have N1 := Aside0.mk q1
          have N2 := Aside0.mk q2
          have N3 := Aside0.mk q3
          clear A q1 q2 q3 HV2
          go_wp2_with (go_at_call 17; refine HF2.out.mono ?_; rintro e w2 ⟨v, rfl, ho, hb⟩; have HO2 := Aside0.mk ho; have HB2 := Aside0.mk hb; clear ho hb)
          go_ret3
          exact ⟨_, by rw [← N2.out, ← N3.out]; rfl, by rw [← N1.out]; exact Kd.S_nil _ _ _ _ _, below_then HB.out HB.out.size HB2.out⟩
        | true =>
          have HV3 := Aside0.mk (show (if fl.length = 0 then spL (ls.drop (i + 1)) ((i : Int) + 1) out else if 16 < fl.length ∨ out.length = 400 then ([], (i : Int) + 1, 3) else spL (ls.drop (i + 1)) ((i : Int) + 1) (out ++ [⟨(i : Int) + 1, fl⟩])) = (r1, r2, r3) by have A := HV2.out; rw [if_neg (by decide)] at A; exact A)
          clear HV2
          have hfl : 0 ≤ fl.length := Nat.zero_le _
          by_cases h0 : fl.length = 0
          · have HV4 := Aside0.mk (show spL (ls.drop (i + 1)) ((i : Int) + 1) out = (r1, r2, r3) by have A := HV3.out; rw [if_pos h0] at A; exact A)
            have b0 : ((fl.length : Int) == 0) = true := by simp [h0]
            clear HV3 h0 hfl
            go_wp2_with (go_at_call 17; refine HF2.out.mono ?_; rintro e w2 ⟨v, rfl, ho, hb⟩; obtain ⟨A, cap, hv⟩ := own_slice ho; subst hv; have HO2 := Aside0.mk ho; have HB2 := Aside0.mk hb; clear ho hb)
            go_roundg (ls.length - (i + 1) + 1)
            case measure => have h1 := HK.out; omega
            case rel =>
              exact ⟨i + 1, rfl, ⟨out, hp, rfl, HO.out, HV4.out, Kd.S_below HR.out HB2.out, (HB2.out.block _ (blk_lt HPC.out)).trans HPC.out, below_then HB.out HB.out.size HB2.out⟩⟩
          · have HV4 := Aside0.mk (show (if 16 < fl.length ∨ out.length = 400 then ([], (i : Int) + 1, 3) else spL (ls.drop (i + 1)) ((i : Int) + 1) (out ++ [⟨(i : Int) + 1, fl⟩])) = (r1, r2, r3) by have A := HV3.out; rw [if_neg h0] at A; exact A)
            have b0 : ((fl.length : Int) == 0) = false := by simp; intro h; apply h0; rw [h]; rfl
            obtain ⟨Ao, co, ho5⟩ := Kd.S_slice HR.out
            have H5 := Aside0.mk ho5
            clear HV3 hfl
            by_cases h1 : 16 < fl.length ∨ out.length = 400
            · have A := HV4.out
              rw [if_pos h1] at A
              obtain ⟨q1, q2⟩ := Prod.mk.inj A
              obtain ⟨q2, q3⟩ := Prod.mk.inj q2
              have N1 := Aside0.mk q1
              have N2 := Aside0.mk q2
              have N3 := Aside0.mk q3
              clear A q1 q2 q3 HV4 h0 ho5
              obtain rfl := H5.out
              by_cases h16 : 16 < fl.length
              · have c1 : decide (16 < (fl.length : Int)) = true := decide_eq_true (by omega)
                have c2 : decide (16 < fl.length) = true := decide_eq_true h16
                clear h1 h16
                go_wp2_with (go_at_call 17; refine HF2.out.mono ?_; rintro e w2 ⟨v, rfl, ho, hb⟩; obtain ⟨A, cap, hv⟩ := own_slice ho; subst hv; have HO2 := Aside0.mk ho; have HB2 := Aside0.mk hb; clear ho hb)
                go_ret3
                exact ⟨_, by rw [← N2.out, ← N3.out]; rfl, by rw [← N1.out]; exact Kd.S_nil _ _ _ _ _, below_then HB.out HB.out.size HB2.out⟩
              · have h400 := h1.resolve_left h16
                have c1 : decide (16 < (fl.length : Int)) = false := decide_eq_false (by omega)
                have c2 : decide (16 < fl.length) = false := decide_eq_false h16
                have c3 : ((out.length : Int) == 400) = true := by simp [h400]
                clear h1 h16 h400
                go_wp2_with (go_at_call 17; refine HF2.out.mono ?_; rintro e w2 ⟨v, rfl, ho, hb⟩; obtain ⟨A, cap, hv⟩ := own_slice ho; subst hv; have HO2 := Aside0.mk ho; have HB2 := Aside0.mk hb; clear ho hb)
                go_ret3
                exact ⟨_, by rw [← N2.out, ← N3.out]; rfl, by rw [← N1.out]; exact Kd.S_nil _ _ _ _ _, below_then HB.out HB.out.size HB2.out⟩
            · have HV5 := Aside0.mk (show spL (ls.drop (i + 1)) ((i : Int) + 1) (out ++ [⟨(i : Int) + 1, fl⟩]) = (r1, r2, r3) by have A := HV4.out; rw [if_neg h1] at A; exact A)
              have c1 : decide (16 < (fl.length : Int)) = false := decide_eq_false (by omega)
              have c2 : decide (16 < fl.length) = false := decide_eq_false (by omega)
              have c3 : ((out.length : Int) == 400) = false := by simp; omega
              have ho400 : out.length < 400 := by have := HO.out; omega
              clear HV4 h1 h0 ho5
              obtain rfl := H5.out
              go_wp2_with (first | (go_at_call 17; refine HF2.out.mono ?_; rintro e w2 ⟨v, rfl, ho, hb⟩; obtain ⟨A, cap, hv⟩ := own_slice ho; subst hv; have HO2 := Aside0.mk ho; have HB2 := Aside0.mk hb; clear ho hb) | ((with_reducible refine gate_builtin (b := .append) (xs := #[.tmp 46, .tmp 51]) rfl ?_); at_builtin; refine Kd.S_append k43 (w0 := w) w.heap.size rfl (.tmp 46) (.tmp 51) 22 43 (.agg #[(.int .i64 0), (.slice none 0 0)]) 32 rfl Tryd.underlying22 info43 rfl (by decide) (by omega) (.slice Ao out.length co) out (⟨(i : Int) + 1, fl⟩ : S43) [.int .i64 ((i : Int) + 1), .slice A fl.length cap] (fun k => k ≠ w.heap.size) (fun k_ => some k_ = (.slice A fl.length cap : Value).ownBlock) rfl rfl ?aP ?aK ?aF ?aO ?aB ?aS ?aL ?_; (case aP => exact k43_mkM _ _ _ (⟨(i : Int) + 1, fl⟩ : S43) (Kd.R_lower (Kd.R_of_own HO2.out (fun k hk => hk.symm)) HB.out.size)); (case aK => exact fun k hk => by have h1 := (HO2.out.lt k hk.symm).1; have h2 := blk_lt HPC.out; exact ⟨by omega, fun q => by have h3 := Kd.S_lt HR.out k q.symm; omega⟩); (case aF => exact fun k hk => by have h1 := HB2.out.size; have h2 := blk_lt HPC.out; omega); (case aO => exact Kd.S_mono (Kd.S_below (Kd.S_bound HR.out) HB2.out) (fun k hk => ⟨hk.1, fun q => by have h1 := (HO2.out.lt k q.symm).1; have h2 := hk.2.2.1; omega⟩)); (case aB => exact below_then HB.out HB.out.size HB2.out); (case aS => have h1 := HB2.out.size; have h2 := HB.out.size; omega); (case aL => omega); intro v1 w3 ho hb hg hat; have HO3 := Aside0.mk ho; have HB3 := Aside0.mk hb; have HPC3 := Aside0.mk ((hg.block _ (by have h1 := HB2.out.size; have h2 := blk_lt HPC.out; omega) (Kd.S_away HR.out (fun _ hk => hk))).trans ((HB2.out.block _ (blk_lt HPC.out)).trans HPC.out)); clear ho hb hg hat))
              go_roundg (ls.length - (i + 1) + 1)
              case measure => have h1 := HK.out; omega
              case rel =>
                exact ⟨i + 1, rfl, ⟨_, hp, rfl, by rw [List.length_append]; exact ho400, HV5.out, HO3.out, HPC3.out, HB3.out⟩⟩
      · have hie : i = ls.length := by omega
        subst hie
        have HR := Aside0.mk hR
        have HB := Aside0.mk hB
        rw [List.drop_length] at hA
        obtain ⟨q1, q2⟩ := Prod.mk.inj (show (out, (0 : Int), (0 : Int)) = (r1, r2, r3) from hA)
        obtain ⟨q2, q3⟩ := Prod.mk.inj q2
        subst q1 q2 q3
        clear hR hpc hB hA hk ho hp hi
        go_wp2
        go_ret3
        exact ⟨_, rfl, Kd.S_mono HR.out (fun _ _ => trivial), HB.out⟩


/-! ### computusref06_one: function 18 -/
mutual
def computusref06_one.l0 : Nat → ByteArray → List ByteArray → List Int → Bool → Bool → Bool → Int → Option (List ByteArray × Bool)
  | 0, _, _, _, _, _, _, _ => none
  | k + 1, x0, x4, x5, x6, x7, x8, x9 => if x9 < (x0.size : Int) then (if 0 ≤ x9 then (if (bt x0 x9) < 32 then (if (bt x0 x9) = 9 then (computusref06_one.j1 k x0 x4 x5 x6 x7 x8 x9 (bt x0 x9) false) else (computusref06_one.j1 k x0 x4 x5 x6 x7 x8 x9 (bt x0 x9) ((bt x0 x9) != 13))) else (if (bt x0 x9) > 126 then (if (bt x0 x9) = 9 then (computusref06_one.j1 k x0 x4 x5 x6 x7 x8 x9 (bt x0 x9) false) else (computusref06_one.j1 k x0 x4 x5 x6 x7 x8 x9 (bt x0 x9) ((bt x0 x9) != 13))) else (computusref06_one.j1 k x0 x4 x5 x6 x7 x8 x9 (bt x0 x9) false))) else (none)) else (if x7 = true then (if x4.length < 8796093022208 then (some ((x4 ++ [strOfNums x5]), !x6)) else (none)) else (some (x4, !x6)))
def computusref06_one.j1 : Nat → ByteArray → List ByteArray → List Int → Bool → Bool → Bool → Int → Int → Bool → Option (List ByteArray × Bool)
  | 0, _, _, _, _, _, _, _, _, _ => none
  | k + 1, x0, x4, x5, x6, x7, x8, x9, x10, x33 => if x33 = true then (some (([] : List ByteArray), false)) else (if x8 = true then (computusref06_one.l0 k x0 x4 x5 x6 x7 x8 (wrap64 (x9 + 1))) else (if x6 = true then (if x10 = 13 then (some (([] : List ByteArray), false)) else (if x10 = 34 then (computusref06_one.l0 k x0 x4 x5 false x7 x8 (wrap64 (x9 + 1))) else (if x5.length < 140737488355328 then (computusref06_one.l0 k x0 x4 (x5 ++ [x10]) x6 x7 x8 (wrap64 (x9 + 1))) else (none)))) else (if x10 = 34 then (computusref06_one.l0 k x0 x4 x5 true true x8 (wrap64 (x9 + 1))) else (if x10 = 35 then (computusref06_one.j2 k x0 x4 x5 x6 x7 x8 x9 x10 true) else (if x10 = 32 then (computusref06_one.j2 k x0 x4 x5 x6 x7 x8 x9 x10 true) else (if x10 = 9 then (computusref06_one.j2 k x0 x4 x5 x6 x7 x8 x9 x10 true) else (computusref06_one.j2 k x0 x4 x5 x6 x7 x8 x9 x10 (x10 == 13))))))))
def computusref06_one.j2 : Nat → ByteArray → List ByteArray → List Int → Bool → Bool → Bool → Int → Int → Bool → Option (List ByteArray × Bool)
  | 0, _, _, _, _, _, _, _, _, _ => none
  | k + 1, x0, x4, x5, x6, x7, x8, x9, x10, x59 => if x59 = true then (if x7 = true then (if x4.length < 8796093022208 then (computusref06_one.l0 k x0 (x4 ++ [strOfNums x5]) ([] : List Int) x6 false (x10 == 35) (wrap64 (x9 + 1))) else (none)) else (computusref06_one.l0 k x0 x4 ([] : List Int) x6 false (x10 == 35) (wrap64 (x9 + 1)))) else (if x5.length < 140737488355328 then (computusref06_one.l0 k x0 x4 (x5 ++ [x10]) x6 true x8 (wrap64 (x9 + 1))) else (none))
end
def computusref06_one.f (k : Nat) (a0 : ByteArray) : Option (List ByteArray × Bool) := computusref06_one.l0 k a0 ([] : List ByteArray) ([] : List Int) false false false 0
theorem computusref06_one.mono_l : ∀ k, (∀ y0 y1 y2 y3 y4 y5 y6, LeO (computusref06_one.l0 k y0 y1 y2 y3 y4 y5 y6) (computusref06_one.l0 (k + 1) y0 y1 y2 y3 y4 y5 y6)) ∧ (∀ y0 y1 y2 y3 y4 y5 y6 y7 y8, LeO (computusref06_one.j1 k y0 y1 y2 y3 y4 y5 y6 y7 y8) (computusref06_one.j1 (k + 1) y0 y1 y2 y3 y4 y5 y6 y7 y8)) ∧ (∀ y0 y1 y2 y3 y4 y5 y6 y7 y8, LeO (computusref06_one.j2 k y0 y1 y2 y3 y4 y5 y6 y7 y8) (computusref06_one.j2 (k + 1) y0 y1 y2 y3 y4 y5 y6 y7 y8))
  | 0 => ⟨fun _ _ _ _ _ _ _ r h => by simp [computusref06_one.l0] at h, fun _ _ _ _ _ _ _ _ _ r h => by simp [computusref06_one.j1] at h, fun _ _ _ _ _ _ _ _ _ r h => by simp [computusref06_one.j2] at h⟩
  | k + 1 => by
    obtain ⟨ih0, ih1, ih2⟩ := computusref06_one.mono_l k
    refine ⟨?_, ?_, ?_⟩
    · intro y0 y1 y2 y3 y4 y5 y6
      unfold computusref06_one.l0
      repeat' first
      | (with_reducible exact ih0 _ _ _ _ _ _ _)
      | (with_reducible exact ih1 _ _ _ _ _ _ _ _ _)
      | (with_reducible exact ih2 _ _ _ _ _ _ _ _ _)
      | (with_reducible exact LeO.refl _)
      | (with_reducible exact LeO.none _)
      | (with_reducible refine LeO.ite ?_ ?_)
      | (with_reducible refine LeO.bind ?_ (fun _ => ?_))
      | exact ih0 _ _ _ _ _ _ _
      | exact ih1 _ _ _ _ _ _ _ _ _
      | exact ih2 _ _ _ _ _ _ _ _ _
      | exact LeO.none _
      | refine LeO.ite ?_ ?_
      | refine LeO.bind ?_ (fun _ => ?_)
    · intro y0 y1 y2 y3 y4 y5 y6 y7 y8
      unfold computusref06_one.j1
      repeat' first
      | (with_reducible exact ih0 _ _ _ _ _ _ _)
      | (with_reducible exact ih1 _ _ _ _ _ _ _ _ _)
      | (with_reducible exact ih2 _ _ _ _ _ _ _ _ _)
      | (with_reducible exact LeO.refl _)
      | (with_reducible exact LeO.none _)
      | (with_reducible refine LeO.ite ?_ ?_)
      | (with_reducible refine LeO.bind ?_ (fun _ => ?_))
      | exact ih0 _ _ _ _ _ _ _
      | exact ih1 _ _ _ _ _ _ _ _ _
      | exact ih2 _ _ _ _ _ _ _ _ _
      | exact LeO.none _
      | refine LeO.ite ?_ ?_
      | refine LeO.bind ?_ (fun _ => ?_)
    · intro y0 y1 y2 y3 y4 y5 y6 y7 y8
      unfold computusref06_one.j2
      repeat' first
      | (with_reducible exact ih0 _ _ _ _ _ _ _)
      | (with_reducible exact ih1 _ _ _ _ _ _ _ _ _)
      | (with_reducible exact ih2 _ _ _ _ _ _ _ _ _)
      | (with_reducible exact LeO.refl _)
      | (with_reducible exact LeO.none _)
      | (with_reducible refine LeO.ite ?_ ?_)
      | (with_reducible refine LeO.bind ?_ (fun _ => ?_))
      | exact ih0 _ _ _ _ _ _ _
      | exact ih1 _ _ _ _ _ _ _ _ _
      | exact ih2 _ _ _ _ _ _ _ _ _
      | exact LeO.none _
      | refine LeO.ite ?_ ?_
      | refine LeO.bind ?_ (fun _ => ?_)
theorem computusref06_one.mono : ∀ a0 k, LeO (computusref06_one.f k a0) (computusref06_one.f (k + 1) a0) := by
  intro a0 k
  obtain ⟨ih0, ih1, ih2⟩ := computusref06_one.mono_l k
  unfold computusref06_one.f
  repeat' first
      | (with_reducible exact ih0 _ _ _ _ _ _ _)
      | (with_reducible exact ih1 _ _ _ _ _ _ _ _ _)
      | (with_reducible exact ih2 _ _ _ _ _ _ _ _ _)
      | (with_reducible exact LeO.refl _)
      | (with_reducible exact LeO.none _)
      | (with_reducible refine LeO.ite ?_ ?_)
      | (with_reducible refine LeO.bind ?_ (fun _ => ?_))
      | exact ih0 _ _ _ _ _ _ _
      | exact ih1 _ _ _ _ _ _ _ _ _
      | exact ih2 _ _ _ _ _ _ _ _ _
      | exact LeO.none _
      | refine LeO.ite ?_ ?_
      | refine LeO.bind ?_ (fun _ => ?_)
set_option maxHeartbeats 8000000 in
set_option maxRecDepth 100000 in
theorem computusref06_one.calls (k : Nat) (a0 : ByteArray) (r1 : List ByteArray) (r2 : Bool) (w : World) (h : computusref06_one.f k a0 = some (r1, r2)) :
    Calls Tryd.prog 18 #[.string a0] w fun e w' => ∃ v0_ : Value, e = .returned (.tuple #[v0_, .bool r2]) ∧ Kd.R Kd.string 9 w' w.heap.size (fun _ => True) v0_ r1 ∧ Below w.heap.size w w' := by
  have HB := Aside0.mk (Below.refl w.heap.size w)
  have H : (computusref06_one.l0 k a0 ([] : List ByteArray) ([] : List Int) false false false 0) = some (r1, r2) := h
  clear h
  have H' := Aside0.mk H
  clear H
  go_enter Tryd.func18, Tryd.ntmps18
  go_wp2
  go_loopg [4, 5, 6, 7, 8, 9] k (fun kq v4 v5 v6 v7 v8 v9 w' => ∃ (x4_1 : List ByteArray) (x5_1 : List Int) (x6_1 : Bool) (x7_1 : Bool) (x8_1 : Bool) (x9_1 : Int), v6 = .bool x6_1 ∧ v7 = .bool x7_1 ∧ v8 = .bool x8_1 ∧ v9 = .int .i64 x9_1 ∧ Aside0 (computusref06_one.l0 kq a0 x4_1 x5_1 x6_1 x7_1 x8_1 x9_1 = some (r1, r2)) ∧ Aside0 (kq ≤ k) ∧ Aside0 (Kd.R Kd.string 9 w' w.heap.size (fun _ => True) v4 x4_1) ∧ Aside0 (Kd.R (Kd.int .u8) 5 w' w.heap.size (fun _ => True) v5 x5_1) ∧ Aside0 (Below w.heap.size w w'))
  case atStart => exact ⟨(([] : List ByteArray)), (([] : List Int)), (false), (false), (false), (0), (by first | rfl | (simp; done) | (simp [*]; done)), (by first | rfl | (simp; done) | (simp [*]; done)), (by first | rfl | (simp; done) | (simp [*]; done)), (by first | rfl | (simp; done) | (simp [*]; done)), H', ⟨Nat.le_refl _⟩, ⟨by first | exact Kd.R_nil _ _ _ _ _ | exact Kd.N_nil _ _ _ _ _ | exact Kd.V_nil _ _ _ _ _ | exact Kd.Q_nil _ _ _ _ _ | exact Kd.S_nil _ _ _ _ _⟩, ⟨by first | exact Kd.R_nil _ _ _ _ _ | exact Kd.N_nil _ _ _ _ _ | exact Kd.V_nil _ _ _ _ _ | exact Kd.Q_nil _ _ _ _ _ | exact Kd.S_nil _ _ _ _ _⟩, ⟨by repeat (first | (with_reducible first | exact HB.out | apply below_alloc | apply pw_below_drewN | apply below_drew1) | exact HB.out)⟩⟩
  case round =>
    clear H'
    try clear c1
    obtain ⟨x4_1, x5_1, x6_1, x7_1, x8_1, x9_1, rfl, rfl, rfl, rfl, HA, HK1, HO_4, HO_5, HB⟩ := hrel
    cases gk with
    | zero => exact absurd HA.out (by simp [computusref06_one.l0])
    | succ k1 =>
      have H := HA.out
      clear HA
      simp only [computusref06_one.l0] at H
      by_cases c2 : x9_1 < (a0.size : Int)
      · rw [if_pos c2] at H
        have c2b0 : decide (x9_1 < (a0.size : Int)) = true := decide_eq_true c2
        clear c2
        by_cases c3 : 0 ≤ x9_1
        · rw [if_pos c3] at H
          have c3b0 : decide (0 ≤ x9_1) = true := decide_eq_true c3
          clear c3
          have HC5 := Aside0.mk H
          clear H
          have p4 : 0 ≤ (x9_1 : Int) := of_decide_eq_true (by first | (with_reducible assumption) | assumption)
          have q4 : x9_1 < (a0.size : Int) := of_decide_eq_true (by first | (with_reducible assumption) | assumption)
          have hx4 := bt_at a0 x9_1
          replace p4 := eq_true p4
          replace q4 := eq_true q4
          go_upto_region 10 with (fail)
          go_cut [33] (fun v33 wc => ∃ (kq : Nat) (x33_4 : Bool), v33 = .bool x33_4 ∧ Aside0 (computusref06_one.j1 kq a0 x4_1 x5_1 x6_1 x7_1 x8_1 x9_1 (bt a0 x9_1) x33_4 = some (r1, r2)) ∧ Aside0 (kq ≤ k1) ∧ Aside0 (Kd.R Kd.string 9 wc w.heap.size (fun _ => True) u4 x4_1) ∧ Aside0 (Kd.R (Kd.int .u8) 5 wc w.heap.size (fun _ => True) u5 x5_1) ∧ Aside0 (Below w.heap.size w wc))
          case first =>
            have H := HC5.out
            clear HC5
            by_cases c6 : (bt a0 x9_1) < 32
            · rw [if_pos c6] at H
              have c6b0 : decide ((bt a0 x9_1) < 32) = true := decide_eq_true c6
              clear c6
              (first | rw [c6b0] | (simp only [i64_w, i32_w]; rw [c6b0]) | skip)
              by_cases c7 : (bt a0 x9_1) = 9
              · rw [if_pos c7] at H
                have c7b0 : ((bt a0 x9_1) == 9) = true := beq_iff_eq.mpr c7
                have c7b1 : ((bt a0 x9_1) != 9) = false := bne_eq_false_iff_eq.mpr c7
                clear c7
                have H' := Aside0.mk H
                clear H
                go_wp2
                go_meet
                case rel => exact ⟨_, (false), (by first | rfl | (simp; done) | (simp [*]; done)), H', ⟨by have := HK1.out; first | omega | exact Nat.le_refl _⟩, ⟨by (with_reducible repeat (first | apply Kd.R_alloc | apply Kd.R_drewN | apply Kd.R_drew)); exact HO_4.out⟩, ⟨by (with_reducible repeat (first | apply Kd.R_alloc | apply Kd.R_drewN | apply Kd.R_drew)); exact HO_5.out⟩, ⟨by repeat (first | (with_reducible first | exact HB.out | apply below_alloc | apply pw_below_drewN | apply below_drew1) | exact HB.out)⟩⟩
              · rw [if_neg c7] at H
                have c7b0 : ((bt a0 x9_1) == 9) = false := beq_eq_false_iff_ne.mpr c7
                have c7b1 : ((bt a0 x9_1) != 9) = true := bne_iff_ne.mpr c7
                have H' := Aside0.mk H
                clear H
                go_wp2
                go_meet
                case rel => exact ⟨_, (((bt a0 x9_1) != 13)), (by first | rfl | (simp; done) | (simp [*]; done)), H', ⟨by have := HK1.out; first | omega | exact Nat.le_refl _⟩, ⟨by (with_reducible repeat (first | apply Kd.R_alloc | apply Kd.R_drewN | apply Kd.R_drew)); exact HO_4.out⟩, ⟨by (with_reducible repeat (first | apply Kd.R_alloc | apply Kd.R_drewN | apply Kd.R_drew)); exact HO_5.out⟩, ⟨by repeat (first | (with_reducible first | exact HB.out | apply below_alloc | apply pw_below_drewN | apply below_drew1) | exact HB.out)⟩⟩
            · rw [if_neg c6] at H
              have c6b0 : decide ((bt a0 x9_1) < 32) = false := decide_eq_false c6
              clear c6
              (first | rw [c6b0] | (simp only [i64_w, i32_w]; rw [c6b0]) | skip)
              by_cases c8 : (bt a0 x9_1) > 126
              · rw [if_pos c8] at H
                have c8b0 : decide (126 < (bt a0 x9_1)) = true := decide_eq_true c8
                clear c8
                by_cases c9 : (bt a0 x9_1) = 9
                · rw [if_pos c9] at H
                  have c9b0 : ((bt a0 x9_1) == 9) = true := beq_iff_eq.mpr c9
                  have c9b1 : ((bt a0 x9_1) != 9) = false := bne_eq_false_iff_eq.mpr c9
                  clear c9
                  have H' := Aside0.mk H
                  clear H
                  go_wp2
                  go_meet
                  case rel => exact ⟨_, (false), (by first | rfl | (simp; done) | (simp [*]; done)), H', ⟨by have := HK1.out; first | omega | exact Nat.le_refl _⟩, ⟨by (with_reducible repeat (first | apply Kd.R_alloc | apply Kd.R_drewN | apply Kd.R_drew)); exact HO_4.out⟩, ⟨by (with_reducible repeat (first | apply Kd.R_alloc | apply Kd.R_drewN | apply Kd.R_drew)); exact HO_5.out⟩, ⟨by repeat (first | (with_reducible first | exact HB.out | apply below_alloc | apply pw_below_drewN | apply below_drew1) | exact HB.out)⟩⟩
                · rw [if_neg c9] at H
                  have c9b0 : ((bt a0 x9_1) == 9) = false := beq_eq_false_iff_ne.mpr c9
                  have c9b1 : ((bt a0 x9_1) != 9) = true := bne_iff_ne.mpr c9
                  have H' := Aside0.mk H
                  clear H
                  go_wp2
                  go_meet
                  case rel => exact ⟨_, (((bt a0 x9_1) != 13)), (by first | rfl | (simp; done) | (simp [*]; done)), H', ⟨by have := HK1.out; first | omega | exact Nat.le_refl _⟩, ⟨by (with_reducible repeat (first | apply Kd.R_alloc | apply Kd.R_drewN | apply Kd.R_drew)); exact HO_4.out⟩, ⟨by (with_reducible repeat (first | apply Kd.R_alloc | apply Kd.R_drewN | apply Kd.R_drew)); exact HO_5.out⟩, ⟨by repeat (first | (with_reducible first | exact HB.out | apply below_alloc | apply pw_below_drewN | apply below_drew1) | exact HB.out)⟩⟩
              · rw [if_neg c8] at H
                have c8b0 : decide (126 < (bt a0 x9_1)) = false := decide_eq_false c8
                clear c8
                have H' := Aside0.mk H
                clear H
                go_wp2
                go_meet
                case rel => exact ⟨_, (false), (by first | rfl | (simp; done) | (simp [*]; done)), H', ⟨by have := HK1.out; first | omega | exact Nat.le_refl _⟩, ⟨by (with_reducible repeat (first | apply Kd.R_alloc | apply Kd.R_drewN | apply Kd.R_drew)); exact HO_4.out⟩, ⟨by (with_reducible repeat (first | apply Kd.R_alloc | apply Kd.R_drewN | apply Kd.R_drew)); exact HO_5.out⟩, ⟨by repeat (first | (with_reducible first | exact HB.out | apply below_alloc | apply pw_below_drewN | apply below_drew1) | exact HB.out)⟩⟩
          case rest =>
            clear HC5
            try clear c1
            try clear c2
            try clear c2b0
            try clear p2
            try clear c3
            try clear c3b0
            try clear p4
            try clear q4
            try clear hx4
            try clear c6
            try clear c6b0
            try clear c7
            try clear c7b0
            try clear c7b1
            try clear c8
            try clear c8b0
            try clear c9
            try clear c9b0
            try clear c9b1
            try clear p4
            try clear q4
            obtain ⟨kq, x33_4, rfl, HA, HJ4, HO_4, HO_5, HB⟩ := hcut
            cases kq with
            | zero => exact absurd HA.out (by simp [computusref06_one.j1])
            | succ kj4 =>
              have H := HA.out
              clear HA
              simp only [computusref06_one.j1] at H
              by_cases c10 : x33_4 = true
              · subst c10
                have H1 : (some (([] : List ByteArray), false)) = some (r1, r2) := by rw [if_pos rfl] at H; exact H
                clear H
                have H := H1
                clear H1
                simp only [Option.some.injEq, Prod.mk.injEq] at H
                obtain ⟨rfl, rfl⟩ := H
                go_wp2
                go_ret2
                exact ⟨_, by first | rfl | (simp [errW_none, errW_some] <;> rfl) | (simp [*, errW_none, errW_some] <;> rfl), by first | exact Kd.R_nil _ _ _ _ _ | exact Kd.N_nil _ _ _ _ _ | exact Kd.V_nil _ _ _ _ _ | exact Kd.Q_nil _ _ _ _ _ | exact Kd.S_nil _ _ _ _ _, by repeat (first | (with_reducible first | exact HB.out | apply below_alloc | apply pw_below_drewN | apply below_drew1) | exact HB.out)⟩
              · replace c10 := Bool.eq_false_iff.mpr c10
                subst c10
                have H1 : (if x8_1 = true then (computusref06_one.l0 kj4 a0 x4_1 x5_1 x6_1 x7_1 x8_1 (wrap64 (x9_1 + 1))) else (if x6_1 = true then (if (bt a0 x9_1) = 13 then (some (([] : List ByteArray), false)) else (if (bt a0 x9_1) = 34 then (computusref06_one.l0 kj4 a0 x4_1 x5_1 false x7_1 x8_1 (wrap64 (x9_1 + 1))) else (if x5_1.length < 140737488355328 then (computusref06_one.l0 kj4 a0 x4_1 (x5_1 ++ [(bt a0 x9_1)]) x6_1 x7_1 x8_1 (wrap64 (x9_1 + 1))) else (none)))) else (if (bt a0 x9_1) = 34 then (computusref06_one.l0 kj4 a0 x4_1 x5_1 true true x8_1 (wrap64 (x9_1 + 1))) else (if (bt a0 x9_1) = 35 then (computusref06_one.j2 kj4 a0 x4_1 x5_1 x6_1 x7_1 x8_1 x9_1 (bt a0 x9_1) true) else (if (bt a0 x9_1) = 32 then (computusref06_one.j2 kj4 a0 x4_1 x5_1 x6_1 x7_1 x8_1 x9_1 (bt a0 x9_1) true) else (if (bt a0 x9_1) = 9 then (computusref06_one.j2 kj4 a0 x4_1 x5_1 x6_1 x7_1 x8_1 x9_1 (bt a0 x9_1) true) else (computusref06_one.j2 kj4 a0 x4_1 x5_1 x6_1 x7_1 x8_1 x9_1 (bt a0 x9_1) ((bt a0 x9_1) == 13)))))))) = some (r1, r2) := by rw [if_neg (show ¬ (false = true) by decide)] at H; exact H
                clear H
                have H := H1
                clear H1
                by_cases c11 : x8_1 = true
                · subst c11
                  have H1 : (computusref06_one.l0 kj4 a0 x4_1 x5_1 x6_1 x7_1 true (wrap64 (x9_1 + 1))) = some (r1, r2) := by rw [if_pos rfl] at H; exact H
                  clear H
                  have H := H1
                  clear H1
                  have H' := Aside0.mk H
                  clear H
                  go_wp2
                  go_roundg kj4
                  case measure => have := HK1.out; have := HJ4.out; omega
                  case rel => exact ⟨(x4_1), (x5_1), (x6_1), (x7_1), (true), (wrap64 (x9_1 + 1)), (by first | rfl | (simp; done) | (simp [*]; done)), (by first | rfl | (simp; done) | (simp [*]; done)), (by first | rfl | (simp; done) | (simp [*]; done)), (by first | rfl | (simp; done) | (simp [*]; done)), H', ⟨by have := HK1.out; have := HJ4.out; omega⟩, ⟨by (with_reducible repeat (first | apply Kd.R_alloc | apply Kd.R_drewN | apply Kd.R_drew)); exact HO_4.out⟩, ⟨by (with_reducible repeat (first | apply Kd.R_alloc | apply Kd.R_drewN | apply Kd.R_drew)); exact HO_5.out⟩, ⟨by repeat (first | (with_reducible first | exact HB.out | apply below_alloc | apply pw_below_drewN | apply below_drew1) | exact HB.out)⟩⟩
                · replace c11 := Bool.eq_false_iff.mpr c11
                  subst c11
                  have H1 : (if x6_1 = true then (if (bt a0 x9_1) = 13 then (some (([] : List ByteArray), false)) else (if (bt a0 x9_1) = 34 then (computusref06_one.l0 kj4 a0 x4_1 x5_1 false x7_1 false (wrap64 (x9_1 + 1))) else (if x5_1.length < 140737488355328 then (computusref06_one.l0 kj4 a0 x4_1 (x5_1 ++ [(bt a0 x9_1)]) x6_1 x7_1 false (wrap64 (x9_1 + 1))) else (none)))) else (if (bt a0 x9_1) = 34 then (computusref06_one.l0 kj4 a0 x4_1 x5_1 true true false (wrap64 (x9_1 + 1))) else (if (bt a0 x9_1) = 35 then (computusref06_one.j2 kj4 a0 x4_1 x5_1 x6_1 x7_1 false x9_1 (bt a0 x9_1) true) else (if (bt a0 x9_1) = 32 then (computusref06_one.j2 kj4 a0 x4_1 x5_1 x6_1 x7_1 false x9_1 (bt a0 x9_1) true) else (if (bt a0 x9_1) = 9 then (computusref06_one.j2 kj4 a0 x4_1 x5_1 x6_1 x7_1 false x9_1 (bt a0 x9_1) true) else (computusref06_one.j2 kj4 a0 x4_1 x5_1 x6_1 x7_1 false x9_1 (bt a0 x9_1) ((bt a0 x9_1) == 13))))))) = some (r1, r2) := by rw [if_neg (show ¬ (false = true) by decide)] at H; exact H
                  clear H
                  have H := H1
                  clear H1
                  by_cases c12 : x6_1 = true
                  · subst c12
                    have H1 : (if (bt a0 x9_1) = 13 then (some (([] : List ByteArray), false)) else (if (bt a0 x9_1) = 34 then (computusref06_one.l0 kj4 a0 x4_1 x5_1 false x7_1 false (wrap64 (x9_1 + 1))) else (if x5_1.length < 140737488355328 then (computusref06_one.l0 kj4 a0 x4_1 (x5_1 ++ [(bt a0 x9_1)]) true x7_1 false (wrap64 (x9_1 + 1))) else (none)))) = some (r1, r2) := by rw [if_pos rfl] at H; exact H
                    clear H
                    have H := H1
                    clear H1
                    by_cases c13 : (bt a0 x9_1) = 13
                    · rw [if_pos c13] at H
                      have c13b0 : ((bt a0 x9_1) == 13) = true := beq_iff_eq.mpr c13
                      have c13b1 : ((bt a0 x9_1) != 13) = false := bne_eq_false_iff_eq.mpr c13
                      clear c13
                      simp only [Option.some.injEq, Prod.mk.injEq] at H
                      obtain ⟨rfl, rfl⟩ := H
                      go_wp2
                      go_ret2
                      exact ⟨_, by first | rfl | (simp [errW_none, errW_some] <;> rfl) | (simp [*, errW_none, errW_some] <;> rfl), by first | exact Kd.R_nil _ _ _ _ _ | exact Kd.N_nil _ _ _ _ _ | exact Kd.V_nil _ _ _ _ _ | exact Kd.Q_nil _ _ _ _ _ | exact Kd.S_nil _ _ _ _ _, by repeat (first | (with_reducible first | exact HB.out | apply below_alloc | apply pw_below_drewN | apply below_drew1) | exact HB.out)⟩
                    · rw [if_neg c13] at H
                      have c13b0 : ((bt a0 x9_1) == 13) = false := beq_eq_false_iff_ne.mpr c13
                      have c13b1 : ((bt a0 x9_1) != 13) = true := bne_iff_ne.mpr c13
                      by_cases c14 : (bt a0 x9_1) = 34
                      · rw [if_pos c14] at H
                        have c14b0 : ((bt a0 x9_1) == 34) = true := beq_iff_eq.mpr c14
                        have c14b1 : ((bt a0 x9_1) != 34) = false := bne_eq_false_iff_eq.mpr c14
                        clear c14
                        have H' := Aside0.mk H
                        clear H
                        go_wp2
                        go_roundg kj4
                        case measure => have := HK1.out; have := HJ4.out; omega
                        case rel => exact ⟨(x4_1), (x5_1), (false), (x7_1), (false), (wrap64 (x9_1 + 1)), (by first | rfl | (simp; done) | (simp [*]; done)), (by first | rfl | (simp; done) | (simp [*]; done)), (by first | rfl | (simp; done) | (simp [*]; done)), (by first | rfl | (simp; done) | (simp [*]; done)), H', ⟨by have := HK1.out; have := HJ4.out; omega⟩, ⟨by (with_reducible repeat (first | apply Kd.R_alloc | apply Kd.R_drewN | apply Kd.R_drew)); exact HO_4.out⟩, ⟨by (with_reducible repeat (first | apply Kd.R_alloc | apply Kd.R_drewN | apply Kd.R_drew)); exact HO_5.out⟩, ⟨by repeat (first | (with_reducible first | exact HB.out | apply below_alloc | apply pw_below_drewN | apply below_drew1) | exact HB.out)⟩⟩
                      · rw [if_neg c14] at H
                        have c14b0 : ((bt a0 x9_1) == 34) = false := beq_eq_false_iff_ne.mpr c14
                        have c14b1 : ((bt a0 x9_1) != 34) = true := bne_iff_ne.mpr c14
                        by_cases c15 : x5_1.length < 140737488355328
                        · rw [if_pos c15] at H
                          have LMc15 := Aside0.mk c15
                          clear c15
                          obtain ⟨y104, hy104⟩ : ∃ y_ : List Int, y_ = (x5_1 ++ [(bt a0 x9_1)]) := ⟨_, rfl⟩
                          replace H : (computusref06_one.l0 kj4 a0 x4_1 y104 true x7_1 false (wrap64 (x9_1 + 1))) = some (r1, r2) := by first | (rw [hy104]; with_reducible exact H) | (have H2_ := (Option.bind_some _ _).symm.trans H; rw [hy104]; with_reducible exact H2_) | (have H2_ := (Option.bind_some _ _).symm.trans H; with_reducible exact H2_) | with_reducible exact H | (rw [hy104]; exact H) | exact H
                          have Ny104 := Aside0.mk hy104
                          clear hy104
                          have H' := Aside0.mk H
                          clear H
                          go_wp2_with (first | ((with_reducible refine gate_builtin (b := .append) (xs := #[.tmp 40, .tmp 42]) rfl ?_); at_builtin; refine Kd.R_append (Kd.int .u8) (w0 := w) w.heap.size rfl (.tmp 40) (.tmp 42) 46 5 (.int .u8 0) 1 rfl Tryd.underlying46 info5 rfl (by decide) (by omega) u5 x5_1 (bt a0 x9_1) [.int .u8 (bt a0 x9_1)] (fun _ => True) (fun _ => False) rfl rfl ?aP (fun _ hk => hk.elim) ?aF ?aO ?aB ?aS ?aL ?_; (case aP => exact rfl); (case aB => exact (by repeat (first | (with_reducible first | exact HB.out | apply below_alloc | apply pw_below_drewN | apply below_drew1) | exact HB.out))); (case aF => exact (fun _ _ => trivial)); (case aO => exact (by (with_reducible repeat (first | apply Kd.R_alloc | apply Kd.R_drewN | apply Kd.R_drew)); exact HO_5.out)); (case aS => exact (below_size (by repeat (first | (with_reducible first | exact HB.out | apply below_alloc | apply pw_below_drewN | apply below_drew1) | exact HB.out)))); (case aL => have := LMc15.out; omega); intro v105 w16 ho hb hg hat; rw [← Ny104.out] at ho; have n0_ := Aside0.mk (Kd.R_over' (by (with_reducible repeat (first | apply Kd.R_alloc | apply Kd.R_drewN | apply Kd.R_drew)); exact HO_4.out) (Kd.R_typed (by (with_reducible repeat (first | apply Kd.R_alloc | apply Kd.R_drewN | apply Kd.R_drew)); exact HO_5.out)) (by decide) hg); have n1_ := Aside0.mk (hb); have n2_ := Aside0.mk (ho); clear HO_4; clear HB; clear HO_5; have HO_4 := n0_; have HB := n1_; have HO106 := n2_; clear n0_ n1_ n2_; clear ho hb hg hat))
                          go_roundg kj4
                          case measure => have := HK1.out; have := HJ4.out; omega
                          case rel => exact ⟨(x4_1), (y104), (true), (x7_1), (false), (wrap64 (x9_1 + 1)), (by first | rfl | (simp; done) | (simp [*]; done)), (by first | rfl | (simp; done) | (simp [*]; done)), (by first | rfl | (simp; done) | (simp [*]; done)), (by first | rfl | (simp; done) | (simp [*]; done)), H', ⟨by have := HK1.out; have := HJ4.out; omega⟩, ⟨by (with_reducible repeat (first | apply Kd.R_alloc | apply Kd.R_drewN | apply Kd.R_drew)); exact HO_4.out⟩, ⟨by (with_reducible repeat (first | apply Kd.R_alloc | apply Kd.R_drewN | apply Kd.R_drew)); exact HO106.out⟩, ⟨by repeat (first | (with_reducible first | exact HB.out | apply below_alloc | apply pw_below_drewN | apply below_drew1) | exact HB.out)⟩⟩
                        · rw [if_neg c15] at H
                          exact absurd H (by simp)
                  · replace c12 := Bool.eq_false_iff.mpr c12
                    subst c12
                    have H1 : (if (bt a0 x9_1) = 34 then (computusref06_one.l0 kj4 a0 x4_1 x5_1 true true false (wrap64 (x9_1 + 1))) else (if (bt a0 x9_1) = 35 then (computusref06_one.j2 kj4 a0 x4_1 x5_1 false x7_1 false x9_1 (bt a0 x9_1) true) else (if (bt a0 x9_1) = 32 then (computusref06_one.j2 kj4 a0 x4_1 x5_1 false x7_1 false x9_1 (bt a0 x9_1) true) else (if (bt a0 x9_1) = 9 then (computusref06_one.j2 kj4 a0 x4_1 x5_1 false x7_1 false x9_1 (bt a0 x9_1) true) else (computusref06_one.j2 kj4 a0 x4_1 x5_1 false x7_1 false x9_1 (bt a0 x9_1) ((bt a0 x9_1) == 13)))))) = some (r1, r2) := by rw [if_neg (show ¬ (false = true) by decide)] at H; exact H
                    clear H
                    have H := H1
                    clear H1
                    by_cases c17 : (bt a0 x9_1) = 34
                    · rw [if_pos c17] at H
                      have c17b0 : ((bt a0 x9_1) == 34) = true := beq_iff_eq.mpr c17
                      have c17b1 : ((bt a0 x9_1) != 34) = false := bne_eq_false_iff_eq.mpr c17
                      clear c17
                      have H' := Aside0.mk H
                      clear H
                      go_wp2
                      go_roundg kj4
                      case measure => have := HK1.out; have := HJ4.out; omega
                      case rel => exact ⟨(x4_1), (x5_1), (true), (true), (false), (wrap64 (x9_1 + 1)), (by first | rfl | (simp; done) | (simp [*]; done)), (by first | rfl | (simp; done) | (simp [*]; done)), (by first | rfl | (simp; done) | (simp [*]; done)), (by first | rfl | (simp; done) | (simp [*]; done)), H', ⟨by have := HK1.out; have := HJ4.out; omega⟩, ⟨by (with_reducible repeat (first | apply Kd.R_alloc | apply Kd.R_drewN | apply Kd.R_drew)); exact HO_4.out⟩, ⟨by (with_reducible repeat (first | apply Kd.R_alloc | apply Kd.R_drewN | apply Kd.R_drew)); exact HO_5.out⟩, ⟨by repeat (first | (with_reducible first | exact HB.out | apply below_alloc | apply pw_below_drewN | apply below_drew1) | exact HB.out)⟩⟩
                    · rw [if_neg c17] at H
                      have c17b0 : ((bt a0 x9_1) == 34) = false := beq_eq_false_iff_ne.mpr c17
                      have c17b1 : ((bt a0 x9_1) != 34) = true := bne_iff_ne.mpr c17
                      have HC18 := Aside0.mk H
                      clear H
                      go_upto_region 22 with (fail)
                      go_cut [59] (fun v59 wc => ∃ (kq : Nat) (x59_17 : Bool), v59 = .bool x59_17 ∧ Aside0 (computusref06_one.j2 kq a0 x4_1 x5_1 false x7_1 false x9_1 (bt a0 x9_1) x59_17 = some (r1, r2)) ∧ Aside0 (kq ≤ kj4) ∧ Aside0 (Kd.R Kd.string 9 wc w.heap.size (fun _ => True) u4 x4_1) ∧ Aside0 (Kd.R (Kd.int .u8) 5 wc w.heap.size (fun _ => True) u5 x5_1) ∧ Aside0 (Below w.heap.size w wc))
                      case first =>
                        have H := HC18.out
                        clear HC18
                        by_cases c19 : (bt a0 x9_1) = 35
                        · rw [if_pos c19] at H
                          have c19b0 : ((bt a0 x9_1) == 35) = true := beq_iff_eq.mpr c19
                          have c19b1 : ((bt a0 x9_1) != 35) = false := bne_eq_false_iff_eq.mpr c19
                          clear c19
                          (first | rw [c19b0] | (simp only [i64_w, i32_w]; rw [c19b0]) | skip)
                          have H' := Aside0.mk H
                          clear H
                          go_wp2
                          go_meet
                          case rel => exact ⟨_, (true), (by first | rfl | (simp; done) | (simp [*]; done)), H', ⟨by have := HK1.out; have := HJ4.out; first | omega | exact Nat.le_refl _⟩, ⟨by (with_reducible repeat (first | apply Kd.R_alloc | apply Kd.R_drewN | apply Kd.R_drew)); exact HO_4.out⟩, ⟨by (with_reducible repeat (first | apply Kd.R_alloc | apply Kd.R_drewN | apply Kd.R_drew)); exact HO_5.out⟩, ⟨by repeat (first | (with_reducible first | exact HB.out | apply below_alloc | apply pw_below_drewN | apply below_drew1) | exact HB.out)⟩⟩
                        · rw [if_neg c19] at H
                          have c19b0 : ((bt a0 x9_1) == 35) = false := beq_eq_false_iff_ne.mpr c19
                          have c19b1 : ((bt a0 x9_1) != 35) = true := bne_iff_ne.mpr c19
                          (first | rw [c19b0] | (simp only [i64_w, i32_w]; rw [c19b0]) | skip)
                          by_cases c20 : (bt a0 x9_1) = 32
                          · rw [if_pos c20] at H
                            have c20b0 : ((bt a0 x9_1) == 32) = true := beq_iff_eq.mpr c20
                            have c20b1 : ((bt a0 x9_1) != 32) = false := bne_eq_false_iff_eq.mpr c20
                            clear c20
                            have H' := Aside0.mk H
                            clear H
                            go_wp2
                            go_meet
                            case rel => exact ⟨_, (true), (by first | rfl | (simp; done) | (simp [*]; done)), H', ⟨by have := HK1.out; have := HJ4.out; first | omega | exact Nat.le_refl _⟩, ⟨by (with_reducible repeat (first | apply Kd.R_alloc | apply Kd.R_drewN | apply Kd.R_drew)); exact HO_4.out⟩, ⟨by (with_reducible repeat (first | apply Kd.R_alloc | apply Kd.R_drewN | apply Kd.R_drew)); exact HO_5.out⟩, ⟨by repeat (first | (with_reducible first | exact HB.out | apply below_alloc | apply pw_below_drewN | apply below_drew1) | exact HB.out)⟩⟩
                          · rw [if_neg c20] at H
                            have c20b0 : ((bt a0 x9_1) == 32) = false := beq_eq_false_iff_ne.mpr c20
                            have c20b1 : ((bt a0 x9_1) != 32) = true := bne_iff_ne.mpr c20
                            by_cases c21 : (bt a0 x9_1) = 9
                            · rw [if_pos c21] at H
                              have c21b0 : ((bt a0 x9_1) == 9) = true := beq_iff_eq.mpr c21
                              have c21b1 : ((bt a0 x9_1) != 9) = false := bne_eq_false_iff_eq.mpr c21
                              clear c21
                              have H' := Aside0.mk H
                              clear H
                              go_wp2
                              go_meet
                              case rel => exact ⟨_, (true), (by first | rfl | (simp; done) | (simp [*]; done)), H', ⟨by have := HK1.out; have := HJ4.out; first | omega | exact Nat.le_refl _⟩, ⟨by (with_reducible repeat (first | apply Kd.R_alloc | apply Kd.R_drewN | apply Kd.R_drew)); exact HO_4.out⟩, ⟨by (with_reducible repeat (first | apply Kd.R_alloc | apply Kd.R_drewN | apply Kd.R_drew)); exact HO_5.out⟩, ⟨by repeat (first | (with_reducible first | exact HB.out | apply below_alloc | apply pw_below_drewN | apply below_drew1) | exact HB.out)⟩⟩
                            · rw [if_neg c21] at H
                              have c21b0 : ((bt a0 x9_1) == 9) = false := beq_eq_false_iff_ne.mpr c21
                              have c21b1 : ((bt a0 x9_1) != 9) = true := bne_iff_ne.mpr c21
                              have H' := Aside0.mk H
                              clear H
                              go_wp2
                              go_meet
                              case rel => exact ⟨_, (((bt a0 x9_1) == 13)), (by first | rfl | (simp; done) | (simp [*]; done)), H', ⟨by have := HK1.out; have := HJ4.out; first | omega | exact Nat.le_refl _⟩, ⟨by (with_reducible repeat (first | apply Kd.R_alloc | apply Kd.R_drewN | apply Kd.R_drew)); exact HO_4.out⟩, ⟨by (with_reducible repeat (first | apply Kd.R_alloc | apply Kd.R_drewN | apply Kd.R_drew)); exact HO_5.out⟩, ⟨by repeat (first | (with_reducible first | exact HB.out | apply below_alloc | apply pw_below_drewN | apply below_drew1) | exact HB.out)⟩⟩
                      case rest =>
                        clear HC18
                        try clear c1
                        try clear c2
                        try clear c2b0
                        try clear p2
                        try clear c3
                        try clear c3b0
                        try clear p4
                        try clear q4
                        try clear hx4
                        try clear c6
                        try clear c6b0
                        try clear p6
                        try clear c7
                        try clear c7b0
                        try clear c7b1
                        try clear c8
                        try clear c8b0
                        try clear c9
                        try clear c9b0
                        try clear c9b1
                        try clear c10
                        try clear c11
                        try clear c12
                        try clear c13
                        try clear c13b0
                        try clear c13b1
                        try clear c14
                        try clear c14b0
                        try clear c14b1
                        try clear c15
                        try clear c17
                        try clear c17b0
                        try clear c17b1
                        try clear c18
                        try clear c19
                        try clear c19b0
                        try clear c19b1
                        try clear c20
                        try clear c20b0
                        try clear c20b1
                        try clear c21
                        try clear c21b0
                        try clear c21b1
                        try clear p2
                        try clear p4
                        try clear q4
                        obtain ⟨kq, x59_17, rfl, HA, HJ17, HO_4, HO_5, HB⟩ := hcut
                        cases kq with
                        | zero => exact absurd HA.out (by simp [computusref06_one.j2])
                        | succ kj17 =>
                          have H := HA.out
                          clear HA
                          simp only [computusref06_one.j2] at H
                          by_cases c22 : x59_17 = true
                          · subst c22
                            have H1 : (if x7_1 = true then (if x4_1.length < 8796093022208 then (computusref06_one.l0 kj17 a0 (x4_1 ++ [strOfNums x5_1]) ([] : List Int) false false ((bt a0 x9_1) == 35) (wrap64 (x9_1 + 1))) else (none)) else (computusref06_one.l0 kj17 a0 x4_1 ([] : List Int) false false ((bt a0 x9_1) == 35) (wrap64 (x9_1 + 1)))) = some (r1, r2) := by rw [if_pos rfl] at H; exact H
                            clear H
                            have H := H1
                            clear H1
                            by_cases c23 : x7_1 = true
                            · subst c23
                              have H1 : (if x4_1.length < 8796093022208 then (computusref06_one.l0 kj17 a0 (x4_1 ++ [strOfNums x5_1]) ([] : List Int) false false ((bt a0 x9_1) == 35) (wrap64 (x9_1 + 1))) else (none)) = some (r1, r2) := by rw [if_pos rfl] at H; exact H
                              clear H
                              have H := H1
                              clear H1
                              by_cases c24 : x4_1.length < 8796093022208
                              · rw [if_pos c24] at H
                                have LMc24 := Aside0.mk c24
                                clear c24
                                obtain ⟨y107, hy107⟩ : ∃ y_ : List ByteArray, y_ = (x4_1 ++ [strOfNums x5_1]) := ⟨_, rfl⟩
                                replace H : (computusref06_one.l0 kj17 a0 y107 ([] : List Int) false false ((bt a0 x9_1) == 35) (wrap64 (x9_1 + 1))) = some (r1, r2) := by first | (rw [hy107]; with_reducible exact H) | (have H2_ := (Option.bind_some _ _).symm.trans H; rw [hy107]; with_reducible exact H2_) | (have H2_ := (Option.bind_some _ _).symm.trans H; with_reducible exact H2_) | with_reducible exact H | (rw [hy107]; exact H) | exact H
                                have Ny107 := Aside0.mk hy107
                                clear hy107
                                have H' := Aside0.mk H
                                clear H
                                have hcv25 := own_string (P := Tryd.prog) Tryd.underlying46 Tryd.underlying5 Tryd.underlying9 (Kd.own_of_R HO_5.out)
                                go_wp2_with (first | ((with_reducible refine gate_builtin (b := .append) (xs := #[.tmp 61, .tmp 64]) rfl ?_); at_builtin; refine Kd.R_append Kd.string (w0 := w) w.heap.size rfl (.tmp 61) (.tmp 64) 38 9 (.string ⟨#[]⟩) 16 rfl Tryd.underlying38 info9 rfl (by decide) (by omega) u4 x4_1 (strOfNums x5_1) [.string (strOfNums x5_1)] (fun _ => True) (fun _ => False) rfl rfl ?aP (fun _ hk => hk.elim) ?aF ?aO ?aB ?aS ?aL ?_; (case aP => exact rfl); (case aB => exact (by repeat (first | (with_reducible first | exact HB.out | apply below_alloc | apply pw_below_drewN | apply below_drew1) | exact HB.out))); (case aF => exact (fun _ _ => trivial)); (case aO => exact (by (with_reducible repeat (first | apply Kd.R_alloc | apply Kd.R_drewN | apply Kd.R_drew)); exact HO_4.out)); (case aS => exact (below_size (by repeat (first | (with_reducible first | exact HB.out | apply below_alloc | apply pw_below_drewN | apply below_drew1) | exact HB.out)))); (case aL => have := LMc24.out; omega); intro v108 w26 ho hb hg hat; rw [← Ny107.out] at ho; have n0_ := Aside0.mk (Kd.R_over' (by (with_reducible repeat (first | apply Kd.R_alloc | apply Kd.R_drewN | apply Kd.R_drew)); exact HO_5.out) (Kd.R_typed (by (with_reducible repeat (first | apply Kd.R_alloc | apply Kd.R_drewN | apply Kd.R_drew)); exact HO_4.out)) (by decide) hg); have n1_ := Aside0.mk (hb); have n2_ := Aside0.mk (ho); clear HO_5; clear HB; clear HO_4; have HO_5 := n0_; have HB := n1_; have HO109 := n2_; clear n0_ n1_ n2_; clear ho hb hg hat))
                                go_roundg kj17
                                case measure => have := HK1.out; have := HJ4.out; have := HJ17.out; omega
                                case rel => exact ⟨(y107), (([] : List Int)), (false), (false), (((bt a0 x9_1) == 35)), (wrap64 (x9_1 + 1)), (by first | rfl | (simp; done) | (simp [*]; done)), (by first | rfl | (simp; done) | (simp [*]; done)), (by first | rfl | (simp; done) | (simp [*]; done)), (by first | rfl | (simp; done) | (simp [*]; done)), H', ⟨by have := HK1.out; have := HJ4.out; have := HJ17.out; omega⟩, ⟨by (with_reducible repeat (first | apply Kd.R_alloc | apply Kd.R_drewN | apply Kd.R_drew)); exact HO109.out⟩, ⟨by first | exact Kd.R_nil _ _ _ _ _ | exact Kd.N_nil _ _ _ _ _ | exact Kd.V_nil _ _ _ _ _ | exact Kd.Q_nil _ _ _ _ _ | exact Kd.S_nil _ _ _ _ _⟩, ⟨by repeat (first | (with_reducible first | exact HB.out | apply below_alloc | apply pw_below_drewN | apply below_drew1) | exact HB.out)⟩⟩
                              · rw [if_neg c24] at H
                                exact absurd H (by simp)
                            · replace c23 := Bool.eq_false_iff.mpr c23
                              subst c23
                              have H1 : (computusref06_one.l0 kj17 a0 x4_1 ([] : List Int) false false ((bt a0 x9_1) == 35) (wrap64 (x9_1 + 1))) = some (r1, r2) := by rw [if_neg (show ¬ (false = true) by decide)] at H; exact H
                              clear H
                              have H := H1
                              clear H1
                              have H' := Aside0.mk H
                              clear H
                              go_wp2
                              go_roundg kj17
                              case measure => have := HK1.out; have := HJ4.out; have := HJ17.out; omega
                              case rel => exact ⟨(x4_1), (([] : List Int)), (false), (false), (((bt a0 x9_1) == 35)), (wrap64 (x9_1 + 1)), (by first | rfl | (simp; done) | (simp [*]; done)), (by first | rfl | (simp; done) | (simp [*]; done)), (by first | rfl | (simp; done) | (simp [*]; done)), (by first | rfl | (simp; done) | (simp [*]; done)), H', ⟨by have := HK1.out; have := HJ4.out; have := HJ17.out; omega⟩, ⟨by (with_reducible repeat (first | apply Kd.R_alloc | apply Kd.R_drewN | apply Kd.R_drew)); exact HO_4.out⟩, ⟨by first | exact Kd.R_nil _ _ _ _ _ | exact Kd.N_nil _ _ _ _ _ | exact Kd.V_nil _ _ _ _ _ | exact Kd.Q_nil _ _ _ _ _ | exact Kd.S_nil _ _ _ _ _⟩, ⟨by repeat (first | (with_reducible first | exact HB.out | apply below_alloc | apply pw_below_drewN | apply below_drew1) | exact HB.out)⟩⟩
                          · replace c22 := Bool.eq_false_iff.mpr c22
                            subst c22
                            have H1 : (if x5_1.length < 140737488355328 then (computusref06_one.l0 kj17 a0 x4_1 (x5_1 ++ [(bt a0 x9_1)]) false true false (wrap64 (x9_1 + 1))) else (none)) = some (r1, r2) := by rw [if_neg (show ¬ (false = true) by decide)] at H; exact H
                            clear H
                            have H := H1
                            clear H1
                            by_cases c27 : x5_1.length < 140737488355328
                            · rw [if_pos c27] at H
                              have LMc27 := Aside0.mk c27
                              clear c27
                              obtain ⟨y110, hy110⟩ : ∃ y_ : List Int, y_ = (x5_1 ++ [(bt a0 x9_1)]) := ⟨_, rfl⟩
                              replace H : (computusref06_one.l0 kj17 a0 x4_1 y110 false true false (wrap64 (x9_1 + 1))) = some (r1, r2) := by first | (rw [hy110]; with_reducible exact H) | (have H2_ := (Option.bind_some _ _).symm.trans H; rw [hy110]; with_reducible exact H2_) | (have H2_ := (Option.bind_some _ _).symm.trans H; with_reducible exact H2_) | with_reducible exact H | (rw [hy110]; exact H) | exact H
                              have Ny110 := Aside0.mk hy110
                              clear hy110
                              have H' := Aside0.mk H
                              clear H
                              go_wp2_with (first | ((with_reducible refine gate_builtin (b := .append) (xs := #[.tmp 68, .tmp 70]) rfl ?_); at_builtin; refine Kd.R_append (Kd.int .u8) (w0 := w) w.heap.size rfl (.tmp 68) (.tmp 70) 46 5 (.int .u8 0) 1 rfl Tryd.underlying46 info5 rfl (by decide) (by omega) u5 x5_1 (bt a0 x9_1) [.int .u8 (bt a0 x9_1)] (fun _ => True) (fun _ => False) rfl rfl ?aP (fun _ hk => hk.elim) ?aF ?aO ?aB ?aS ?aL ?_; (case aP => exact rfl); (case aB => exact (by repeat (first | (with_reducible first | exact HB.out | apply below_alloc | apply pw_below_drewN | apply below_drew1) | exact HB.out))); (case aF => exact (fun _ _ => trivial)); (case aO => exact (by (with_reducible repeat (first | apply Kd.R_alloc | apply Kd.R_drewN | apply Kd.R_drew)); exact HO_5.out)); (case aS => exact (below_size (by repeat (first | (with_reducible first | exact HB.out | apply below_alloc | apply pw_below_drewN | apply below_drew1) | exact HB.out)))); (case aL => have := LMc27.out; omega); intro v111 w28 ho hb hg hat; rw [← Ny110.out] at ho; have n0_ := Aside0.mk (Kd.R_over' (by (with_reducible repeat (first | apply Kd.R_alloc | apply Kd.R_drewN | apply Kd.R_drew)); exact HO_4.out) (Kd.R_typed (by (with_reducible repeat (first | apply Kd.R_alloc | apply Kd.R_drewN | apply Kd.R_drew)); exact HO_5.out)) (by decide) hg); have n1_ := Aside0.mk (hb); have n2_ := Aside0.mk (ho); clear HO_4; clear HB; clear HO_5; have HO_4 := n0_; have HB := n1_; have HO112 := n2_; clear n0_ n1_ n2_; clear ho hb hg hat))
                              go_roundg kj17
                              case measure => have := HK1.out; have := HJ4.out; have := HJ17.out; omega
                              case rel => exact ⟨(x4_1), (y110), (false), (true), (false), (wrap64 (x9_1 + 1)), (by first | rfl | (simp; done) | (simp [*]; done)), (by first | rfl | (simp; done) | (simp [*]; done)), (by first | rfl | (simp; done) | (simp [*]; done)), (by first | rfl | (simp; done) | (simp [*]; done)), H', ⟨by have := HK1.out; have := HJ4.out; have := HJ17.out; omega⟩, ⟨by (with_reducible repeat (first | apply Kd.R_alloc | apply Kd.R_drewN | apply Kd.R_drew)); exact HO_4.out⟩, ⟨by (with_reducible repeat (first | apply Kd.R_alloc | apply Kd.R_drewN | apply Kd.R_drew)); exact HO112.out⟩, ⟨by repeat (first | (with_reducible first | exact HB.out | apply below_alloc | apply pw_below_drewN | apply below_drew1) | exact HB.out)⟩⟩
                            · rw [if_neg c27] at H
                              exact absurd H (by simp)
        · rw [if_neg c3] at H
          exact absurd H (by simp)
      · rw [if_neg c2] at H
        have c2b0 : decide (x9_1 < (a0.size : Int)) = false := decide_eq_false c2
        clear c2
        by_cases c29 : x7_1 = true
        · subst c29
          have H1 : (if x4_1.length < 8796093022208 then (some ((x4_1 ++ [strOfNums x5_1]), !x6_1)) else (none)) = some (r1, r2) := by rw [if_pos rfl] at H; exact H
          clear H
          have H := H1
          clear H1
          by_cases c30 : x4_1.length < 8796093022208
          · rw [if_pos c30] at H
            have LMc30 := Aside0.mk c30
            clear c30
            obtain ⟨y101, hy101⟩ : ∃ y_ : List ByteArray, y_ = (x4_1 ++ [strOfNums x5_1]) := ⟨_, rfl⟩
            replace H : (some (y101, !x6_1)) = some (r1, r2) := by first | (rw [hy101]; with_reducible exact H) | (have H2_ := (Option.bind_some _ _).symm.trans H; rw [hy101]; with_reducible exact H2_) | (have H2_ := (Option.bind_some _ _).symm.trans H; with_reducible exact H2_) | with_reducible exact H | (rw [hy101]; exact H) | exact H
            have Ny101 := Aside0.mk hy101
            clear hy101
            simp only [Option.some.injEq, Prod.mk.injEq] at H
            obtain ⟨rfl, rfl⟩ := H
            have hcv31 := own_string (P := Tryd.prog) Tryd.underlying46 Tryd.underlying5 Tryd.underlying9 (Kd.own_of_R HO_5.out)
            go_wp2_with (first | ((with_reducible refine gate_builtin (b := .append) (xs := #[.tmp 73, .tmp 76]) rfl ?_); at_builtin; refine Kd.R_append Kd.string (w0 := w) w.heap.size rfl (.tmp 73) (.tmp 76) 38 9 (.string ⟨#[]⟩) 16 rfl Tryd.underlying38 info9 rfl (by decide) (by omega) u4 x4_1 (strOfNums x5_1) [.string (strOfNums x5_1)] (fun _ => True) (fun _ => False) rfl rfl ?aP (fun _ hk => hk.elim) ?aF ?aO ?aB ?aS ?aL ?_; (case aP => exact rfl); (case aB => exact (by repeat (first | (with_reducible first | exact HB.out | apply below_alloc | apply pw_below_drewN | apply below_drew1) | exact HB.out))); (case aF => exact (fun _ _ => trivial)); (case aO => exact (by (with_reducible repeat (first | apply Kd.R_alloc | apply Kd.R_drewN | apply Kd.R_drew)); exact HO_4.out)); (case aS => exact (below_size (by repeat (first | (with_reducible first | exact HB.out | apply below_alloc | apply pw_below_drewN | apply below_drew1) | exact HB.out)))); (case aL => have := LMc30.out; omega); intro v102 w32 ho hb hg hat; rw [← Ny101.out] at ho; have n0_ := Aside0.mk (Kd.R_over' (by (with_reducible repeat (first | apply Kd.R_alloc | apply Kd.R_drewN | apply Kd.R_drew)); exact HO_5.out) (Kd.R_typed (by (with_reducible repeat (first | apply Kd.R_alloc | apply Kd.R_drewN | apply Kd.R_drew)); exact HO_4.out)) (by decide) hg); have n1_ := Aside0.mk (hb); have n2_ := Aside0.mk (ho); clear HO_5; clear HB; clear HO_4; have HO_5 := n0_; have HB := n1_; have HO103 := n2_; clear n0_ n1_ n2_; clear ho hb hg hat))
            go_ret2
            exact ⟨_, by first | rfl | (simp [errW_none, errW_some] <;> rfl) | (simp [*, errW_none, errW_some] <;> rfl), by (with_reducible repeat (first | apply Kd.R_alloc | apply Kd.R_drewN | apply Kd.R_drew)); exact HO103.out, by repeat (first | (with_reducible first | exact HB.out | apply below_alloc | apply pw_below_drewN | apply below_drew1) | exact HB.out)⟩
          · rw [if_neg c30] at H
            exact absurd H (by simp)
        · replace c29 := Bool.eq_false_iff.mpr c29
          subst c29
          have H1 : (some (x4_1, !x6_1)) = some (r1, r2) := by rw [if_neg (show ¬ (false = true) by decide)] at H; exact H
          clear H
          have H := H1
          clear H1
          simp only [Option.some.injEq, Prod.mk.injEq] at H
          obtain ⟨rfl, rfl⟩ := H
          go_wp2
          go_ret2
          exact ⟨_, by first | rfl | (simp [errW_none, errW_some] <;> rfl) | (simp [*, errW_none, errW_some] <;> rfl), by (with_reducible repeat (first | apply Kd.R_alloc | apply Kd.R_drewN | apply Kd.R_drew)); exact HO_4.out, by repeat (first | (with_reducible first | exact HB.out | apply below_alloc | apply pw_below_drewN | apply below_drew1) | exact HB.out)⟩

end Go.Proofs.YtohhmnbcaflppaaDoor.PLine
