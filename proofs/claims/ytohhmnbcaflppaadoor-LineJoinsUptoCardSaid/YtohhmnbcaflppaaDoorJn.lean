/- What line.Join calls: a builder's WriteByte and WriteString; a field, in quotes or not. -/
import Derived.Test.YtohhmnbcaflppaaDoorShelf
import Derived.Test.YtohhmnbcaflppaaDoorSp
namespace Go.Proofs.YtohhmnbcaflppaaDoor.Rd
open Go.RowKit Go.Proofs.YtohhmnbcaflppaaDoorW.PrintWords Go.Proofs.YtohhmnbcaflppaaDoorW.PrintLast Go.Proofs.YtohhmnbcaflppaaDoorW.PrintMore
set_option linter.unusedVariables false
set_option linter.unusedSimpArgs false
set_option maxHeartbeats 1000000 in
set_option maxRecDepth 100000 in
theorem cc0_used (g : Nat) (w : World) (h0 : w.cell? ⟨g, 0, none⟩ = some (.pointer (some ⟨g, 0, none⟩))) :
    Calls Tryd.prog 26 #[.pointer (some ⟨g, 0, none⟩)] w fun e w' => e = .returned (.tuple #[]) ∧ w' = w := by
  have hj : ∃ j, Tryd.prog.info? 48 = some j := Option.isSome_iff_exists.1 (by kernel_rfl)
  obtain ⟨j, hj⟩ := hj
  go_enter Tryd.func26, Tryd.ntmps26
  go_wp2
  rw [Lib.run_neq_ptr_same w _ Tryd.underlying45 hj]
  go_wp2
  go_end0
  exact ⟨rfl, rfl⟩
set_option maxHeartbeats 1000000 in
set_option maxRecDepth 100000 in
theorem cc0_fresh (g : Nat) (w : World) (h0 : w.cell? ⟨g, 0, none⟩ = some (.pointer none)) (hsh : w.shape? g = some (48, 2)) (hfz : w.frozen? ⟨g, 0, none⟩ = false) :
    Calls Tryd.prog 26 #[.pointer (some ⟨g, 0, none⟩)] w fun e w' => e = .returned (.tuple #[]) ∧ w' = w.setCell ⟨g, 0, none⟩ (.pointer (some ⟨g, 0, none⟩)) := by
  have hj : (Tryd.prog.info? 48).map (fun i => i.size) = some 2 := by kernel_rfl
  obtain ⟨j, hj, hjs⟩ := Option.map_eq_some_iff.1 hj
  go_enter Tryd.func26, Tryd.ntmps26
  go_wp2
  rw [Lib.run_to_unsafe w ⟨g, 0, none⟩ Tryd.underlying45 Tryd.underlying67 hj (by rw [hjs]; decide) hsh (show 0 < 2 by decide)]
  simp only [Result.andThen]
  rw [Oper.upon_value]
  go_wp2
  rw [run_callFunc_extern Tryd.func35 (by kernel_rfl) (by kernel_rfl) (by kernel_rfl) (e := Extern.AbiNoEscape.same) (by kernel_rfl)]
  rw [Lib.run_noEscape]
  simp only [Result.andThen]
  rw [Oper.upon_value]
  go_wp2
  rw [Lib.run_from_unsafe w ⟨g, 0, none⟩ Tryd.underlying67 Tryd.underlying45 hj hsh (by kernel_rfl)]
  simp only [Result.andThen]
  rw [Oper.upon_value]
  go_wp2
  go_end0
  exact ⟨rfl, rfl⟩
theorem cc0 (B b : Nat) (bs : List Value) (w : World) (h : Lib.IsBuilderF 48 5 B b bs w) :
    Calls Tryd.prog 26 #[.pointer (some ⟨b, 0, none⟩)] w fun e w' => e = .returned (.tuple #[]) ∧ (Lib.BuilderAtF 48 5 B b (.pointer (some ⟨b, 0, none⟩)) bs w' ∧ Below B w w') := by
  rcases h with h | h
  · refine (cc0_fresh b w h.cell0 h.shape h.frozen0).mono ?_
    rintro e w' ⟨rfl, rfl⟩
    exact ⟨rfl, h.used _, (Below.refl B w).setCell (p := ⟨b, 0, none⟩) h.1 _⟩
  · refine (cc0_used b w h.cell0).mono ?_
    rintro e w' ⟨rfl, rfl⟩
    exact ⟨rfl, h, Below.refl B _⟩
set_option maxHeartbeats 2000000 in
set_option maxRecDepth 100000 in
theorem writeByte (B b : Nat) (bs : List Value) (c : Int) (w : World) (h : Lib.IsBuilderF 48 5 B b bs w) (hlen : bs.length + 1 ≤ 140737488355328) (hBw : B ≤ w.heap.size) :
    Calls Tryd.prog 19 #[.pointer (some ⟨b, 0, none⟩), .int .u8 c] w fun e w' => e = .returned .nilIface ∧ Lib.IsBuilderF 48 5 B b (bs ++ [.int .u8 c]) w' ∧ Below B w w' := by
  obtain ⟨i0, hi, hz0, hz1, hz2⟩ := info_parts info5
  go_enter Tryd.func19, Tryd.ntmps19
  go_wp2_with (go_at_call 26; refine (cc0 B b bs _ h).mono ?_)
  rintro e w1 ⟨rfl, h1, hb1⟩
  obtain ⟨hB, v, hbk, hown, hne⟩ := h1
  have c0 : w1.cell? ⟨b, 0, none⟩ = some (.pointer (some ⟨b, 0, none⟩)) := by rw [Lib.cell_of_heap hbk]; rfl
  have c1 : w1.cell? ⟨b, 1, none⟩ = some v := by rw [Lib.cell_of_heap hbk]; rfl
  go_wp2_with (at_builtin; refine wpList_append_ownF _ rfl _ _ 46 rfl B 5 i0 (.int .u8 0) 1 1 Tryd.underlying46 hi hz0 hz1 hz2 rfl (by decide) _ _ _ rfl (hown.alloc _) ⟨w1.heap.size, 0, none⟩ 1 1 [.int .u8 c] rfl rfl ?c1 ?c2 ?c3 ?c4 ?c5 ?_)
  case c1 =>
    intro j u hj
    match j, hj with
    | 0, hj => simp at hj; subst hj; simp [Addr.add]
    | (j + 1), hj => simp at hj
  case c2 => intro u hu; simp at hu; subst hu; rfl
  case c3 => unfold maxLen; omega
  case c4 => omega
  case c5 => have := hb1.size; simp; omega
  intro v' w2 hown' hgrow _
  have hlt : b < w1.heap.size := by
    rcases Nat.lt_or_ge b w1.heap.size with h' | h'
    · exact h'
    · simp [Array.getElem?_eq_none h'] at hbk
  have hb2 : w2.heap[b]? = some (.cells #[.pointer (some ⟨b, 0, none⟩), v] 48 (0, 0)) := by
    rw [hgrow.block b (by simp; omega) (fun e => hne e.symm), Lib.alloc_old w1 _ b hlt]
    exact hbk
  have d0 : w2.cell? ⟨b, 0, none⟩ = some (.pointer (some ⟨b, 0, none⟩)) := by rw [Lib.cell_of_heap hb2]; rfl
  have d1 : w2.cell? ⟨b, 1, none⟩ = some v := by rw [Lib.cell_of_heap hb2]; rfl
  have f1 : w2.frozen? ⟨b, 1, none⟩ = false := Lib.frozen_of_heap hb2 1
  obtain ⟨g, cap, rfl⟩ : ∃ g cap, v' = .slice (some ⟨g, 0, none⟩) (bs.length + 1) cap := by
    rcases hown'.2 with ⟨_, h0⟩ | ⟨g, cap, cur, fz, hv, _⟩
    · omega
    · exact ⟨g, cap, hv⟩
  go_wp2
  go_ret
  refine ⟨rfl, .inr ?_, ?_⟩
  · exact Lib.BuilderAtF.put (T := 48) (e := 5) hB hb2 (bs' := bs ++ [.int .u8 c]) (by simpa using hown') (by decide)
  · exact ((hb1.alloc (by have := hb1.size; omega) _).grown hgrow (by have := hb1.size; simp; omega) (fun k hk => (hown.lt k hk).1)).setCell (p := ⟨b, 1, none⟩) hB _
set_option maxHeartbeats 2000000 in
set_option maxRecDepth 100000 in
theorem writeString (B b : Nat) (bs : List Value) (s : ByteArray) (w : World) (h : Lib.IsBuilderF 48 5 B b bs w) (hlen : bs.length + s.size ≤ 140737488355328) (hBw : B ≤ w.heap.size) :
    Calls Tryd.prog 20 #[.pointer (some ⟨b, 0, none⟩), .string s] w fun e w' => e = .returned (.tuple #[.int .i64 s.size, .nilIface]) ∧ Lib.IsBuilderF 48 5 B b (bs ++ Lib.strCells s) w' ∧ Below B w w' := by
  obtain ⟨i0, hi, hz0, hz1, hz2⟩ := info_parts info5
  go_enter Tryd.func20, Tryd.ntmps20
  go_wp2_with (go_at_call 26; refine (cc0 B b bs _ h).mono ?_)
  rintro e w1 ⟨rfl, h1, hb1⟩
  obtain ⟨hB, v, hbk, hown, hne⟩ := h1
  have c0 : w1.cell? ⟨b, 0, none⟩ = some (.pointer (some ⟨b, 0, none⟩)) := by rw [Lib.cell_of_heap hbk]; rfl
  have c1 : w1.cell? ⟨b, 1, none⟩ = some v := by rw [Lib.cell_of_heap hbk]; rfl
  go_wp2_with (at_builtin; refine Lib.wpList_append_own_stringF _ rfl _ _ 46 9 rfl B 5 i0 Tryd.underlying46 Tryd.underlying9 hi hz0 hz1 hz2 _ _ _ rfl hown s rfl ?c3 ?c4 ?c5 ?_)
  case c3 => unfold maxLen; omega
  case c4 => omega
  case c5 => have := hb1.size; omega
  intro v' w2 hown' hgrow _
  have hlt : b < w1.heap.size := by
    rcases Nat.lt_or_ge b w1.heap.size with h' | h'
    · exact h'
    · simp [Array.getElem?_eq_none h'] at hbk
  have hb2 : w2.heap[b]? = some (.cells #[.pointer (some ⟨b, 0, none⟩), v] 48 (0, 0)) := by
    rw [hgrow.block b hlt (fun e => hne e.symm)]
    exact hbk
  have d0 : w2.cell? ⟨b, 0, none⟩ = some (.pointer (some ⟨b, 0, none⟩)) := by rw [Lib.cell_of_heap hb2]; rfl
  have d1 : w2.cell? ⟨b, 1, none⟩ = some v := by rw [Lib.cell_of_heap hb2]; rfl
  have f1 : w2.frozen? ⟨b, 1, none⟩ = false := Lib.frozen_of_heap hb2 1
  obtain ⟨ao, n', cap, rfl⟩ : ∃ ao n' cap, v' = .slice ao n' cap := by
    rcases hown'.2 with ⟨hv, _⟩ | ⟨g, cap, cur, fz, hv, _⟩
    · exact ⟨_, _, _, hv⟩
    · exact ⟨_, _, _, hv⟩
  go_wp2
  go_ret2
  refine ⟨rfl, .inr ?_, ?_⟩
  · exact Lib.BuilderAtF.put (T := 48) (e := 5) hB hb2 (bs' := bs ++ Lib.strCells s) (by simpa [Lib.strCells_length] using hown') (by decide)
  · exact (hb1.grown hgrow (by have := hb1.size; omega) (fun k hk => (hown.lt k hk).1)).setCell (p := ⟨b, 1, none⟩) hB _
theorem builder_below {B b : Nat} {bs : List Value} {w w' : World} (h : Lib.IsBuilderF 48 5 B b bs w) (hb : Below w.heap.size w w') : Lib.IsBuilderF 48 5 B b bs w' := by
  have go : ∀ p, Lib.BuilderAtF 48 5 B b p bs w → Lib.BuilderAtF 48 5 B b p bs w' := by
    rintro p h
    have hlt := h.lt
    obtain ⟨hB, v, hbk, hown, hne⟩ := h
    exact ⟨hB, v, (hb.block b hlt).trans hbk, hown.kept (grown_of_below hb none) (by cases hv : v.ownBlock <;> simp), hne⟩
  exact h.imp (go _) (go _)
/-! A field. -/
def inQ (r : Nat) : Bool := decide (r = 32 ∨ r = 9 ∨ r = 35)
set_option maxHeartbeats 1000000 in
theorem pred (w : World) : PredAt Tryd.prog 28 #[] encR inQ w := by
  intro W r _
  unfold FnGives
  by_cases h1 : r = 32
  · subst h1
    go_enter Tryd.func28, Tryd.ntmps28
    go_wp2
    go_ret
    exact ⟨rfl, 0, rfl⟩
  by_cases h2 : r = 9
  · subst h2
    go_enter Tryd.func28, Tryd.ntmps28
    go_wp2
    go_ret
    exact ⟨rfl, 0, rfl⟩
  by_cases h3 : r = 35
  · subst h3
    go_enter Tryd.func28, Tryd.ntmps28
    go_wp2
    go_ret
    exact ⟨rfl, 0, rfl⟩
  have e : inQ r = false := decide_eq_false (by omega)
  rw [e]
  have b1 : ((r : Int) == 32) = false := by simp; omega
  have b2 : ((r : Int) == 9) = false := by simp; omega
  have b3 : ((r : Int) == 35) = false := by simp; omega
  clear e h1 h2 h3
  go_enter Tryd.func28, Tryd.ntmps28
  go_wp2
  go_ret
  exact ⟨rfl, 0, rfl⟩
def QI (x : Int) : Prop := x = 32 ∨ x = 9 ∨ x = 35
theorem inQ_iff (r : Nat) : inQ r = true ↔ QI (r : Int) := by
  unfold inQ QI
  rw [decide_eq_true_eq]
  omega
theorem idx_iff (s : ByteArray) : ∀ (f pos : Nat), s.size ≤ pos + f → (0 ≤ Lib.idxFuncFrom inQ true s f pos ↔ ∃ j : Nat, pos ≤ j ∧ j < s.size ∧ QI (bt s j)) := by
  intro f
  induction f with
  | zero =>
    intro pos h
    refine ⟨fun h0 => by unfold Lib.idxFuncFrom at h0; omega, fun ⟨j, h1, h2, _⟩ => by omega⟩
  | succ f ih =>
    intro pos h
    by_cases hp : pos < s.size
    · have hw : 1 ≤ (Utf8.decode s pos).2 := Lib.width_pos s pos
      have ih2 := ih (pos + (Utf8.decode s pos).2) (by omega)
      unfold Lib.idxFuncFrom
      rw [if_pos hp]
      by_cases hq : inQ (Utf8.decode s pos).1 = true
      · rw [if_pos hq]
        refine ⟨fun _ => ⟨pos, Nat.le_refl _, hp, ?_⟩, fun _ => Int.natCast_nonneg _⟩
        rw [inQ_iff] at hq
        rcases Utf.tells s pos hp with ⟨h1, h2, h3⟩ | ⟨h1, h2, h3⟩ | ⟨h1, h2, h3⟩ | ⟨h1, h2, h3⟩ | ⟨h1, h2, h3⟩
        · rw [← h2]; exact hq
        · obtain ⟨hs, h4, h5, h6, h7⟩ := h1
          unfold QI at hq; omega
        · obtain ⟨hs, h4, h5, h6, h7, h8, h9, h10, h11⟩ := h1
          unfold QI at hq; omega
        · obtain ⟨hs, h4, h5, h6, h7, h8, h9, h10, h11, h12, h13⟩ := h1
          unfold QI at hq; omega
        · rw [h2] at hq; unfold QI at hq; omega
      · rw [if_neg hq, ih2]
        constructor
        · rintro ⟨j, h1, h2, h3⟩
          exact ⟨j, by omega, h2, h3⟩
        · rintro ⟨j, h1, h2, h3⟩
          refine ⟨j, ?_, h2, h3⟩
          by_cases hlt : bt s pos < 128
          · rcases Utf.tells s pos hp with ⟨g1, g2, g3⟩ | ⟨g1, g2, g3⟩ | ⟨g1, g2, g3⟩ | ⟨g1, g2, g3⟩ | ⟨g1, g2, g3⟩
            · rw [g3]
              by_cases hj : j = pos
              · subst hj
                rw [inQ_iff, g2] at hq
                exact absurd h3 hq
              · omega
            · have := g1.2.1; omega
            · have := g1.2.1; omega
            · have := g1.2.1; omega
            · have := g1.1; omega
          · by_cases hb : Utf.Bad s pos
            · rcases Utf.tells s pos hp with ⟨g1, g2, g3⟩ | ⟨g1, g2, g3⟩ | ⟨g1, g2, g3⟩ | ⟨g1, g2, g3⟩ | ⟨g1, g2, g3⟩
              · omega
              · exact absurd g1 hb.2.1
              · exact absurd g1 hb.2.2.1
              · exact absurd g1 hb.2.2.2
              · rw [g3]
                by_cases hj : j = pos
                · subst hj
                  unfold QI at h3
                  omega
                · omega
            · by_cases hj : j < pos + (Utf8.decode s pos).2
              · have hh := Utf.high_bytes s pos hp hb (by omega) (j - pos) (by omega)
                rw [show pos + (j - pos) = j by omega] at hh
                unfold QI at h3
                omega
              · omega
    · rw [Lib.idxFuncFrom_end inQ true s _ pos hp]
      exact ⟨fun h0 => absurd h0 (by decide), fun ⟨j, h1, h2, _⟩ => by omega⟩
/-- Must a field be in quotes. -/
def quoteB (s : ByteArray) : Bool := s.data.toList.isEmpty || s.data.toList.any (fun b => b == 32 || b == 9 || b == 35)
/-- A field as it is written. -/
def fieldB (s : ByteArray) : ByteArray := if quoteB s = true then ⟨#[34]⟩ ++ s ++ ⟨#[34]⟩ else s
theorem any_iff (s : ByteArray) : s.data.toList.any (fun b => b == 32 || b == 9 || b == 35) = true ↔ ∃ j : Nat, 0 ≤ j ∧ j < s.size ∧ QI (bt s j) := by
  rw [List.any_eq_true]
  constructor
  · rintro ⟨b, hb, hq⟩
    obtain ⟨j, hj, rfl⟩ := List.getElem_of_mem hb
    have hj2 : j < s.size := by rw [Utf.len_list] at hj; exact hj
    refine ⟨j, Nat.zero_le _, hj2, ?_⟩
    rw [Utf.bt_get s j hj2]
    have e : s[j] = s.data.toList[j] := rfl
    rw [e]
    simp only [Bool.or_eq_true, beq_iff_eq] at hq
    unfold QI
    rcases hq with (h | h) | h <;> (rw [h]; simp)
  · rintro ⟨j, _, hj, hq⟩
    refine ⟨s.data.toList[j]'(by rw [Utf.len_list]; exact hj), List.getElem_mem _, ?_⟩
    rw [Utf.bt_get s j hj] at hq
    have e : s[j] = s.data.toList[j]'(by rw [Utf.len_list]; exact hj) := rfl
    rw [e] at hq
    revert hq
    generalize s.data.toList[j]'(by rw [Utf.len_list]; exact hj) = b
    intro hq
    unfold QI at hq
    have hc : b = 32 ∨ b = 9 ∨ b = 35 := by
      rcases hq with h | h | h
      · exact .inl (UInt8.toNat_inj.1 (by show b.toNat = 32; omega))
      · exact .inr (.inl (UInt8.toNat_inj.1 (by show b.toNat = 9; omega)))
      · exact .inr (.inr (UInt8.toNat_inj.1 (by show b.toNat = 35; omega)))
    rcases hc with rfl | rfl | rfl <;> rfl
theorem quote_iff (s : ByteArray) (h : s.data.toList.isEmpty = false) : quoteB s = decide (0 ≤ Lib.idxFunc inQ true s) := by
  unfold quoteB
  rw [h, Bool.false_or, Bool.eq_iff_iff, any_iff, decide_eq_true_eq]
  exact (idx_iff s s.size 0 (by omega)).symm
theorem fieldB_size (s : ByteArray) : (fieldB s).size ≤ s.size + 2 := by
  unfold fieldB
  split
  · rw [ByteArray.size_append, ByteArray.size_append]
    show 1 + s.size + 1 ≤ s.size + 2
    omega
  · omega
set_option maxHeartbeats 2000000 in
set_option maxRecDepth 100000 in
/-- line.field. -/
theorem field_any (s : ByteArray) (w : World) (hs : s.size ≤ 140737488351232) :
    Calls Tryd.prog 21 #[.string s] w fun e w' => e = .returned (.string (fieldB s)) ∧ Below w.heap.size w w' := by
  have hcat1 : ∀ W, (Op.stringOp .add ⟨#[34]⟩ s).run Tryd.prog W = .ok (.string (⟨#[34]⟩ ++ s)) W := fun W => run_string_add_sum W _ _ (by show 1 + s.size ≤ _; omega)
  have hcat2 : ∀ W, (Op.stringOp .add (⟨#[34]⟩ ++ s) ⟨#[34]⟩).run Tryd.prog W = .ok (.string (⟨#[34]⟩ ++ s ++ ⟨#[34]⟩)) W := fun W => run_string_add_sum W _ _ (by rw [ByteArray.size_append]; show 1 + s.size + 1 ≤ _; omega)
  by_cases h0 : s.data.toList.isEmpty = true
  · have e : fieldB s = ⟨#[34]⟩ ++ s ++ ⟨#[34]⟩ := by unfold fieldB quoteB; rw [h0, Bool.true_or, if_pos rfl]
    rw [e]
    have b0 : s.toList.isEmpty = true := by rw [Lib.toList_data]; exact h0
    have b1 : s.toList = [] := List.isEmpty_iff.1 b0
    clear e h0
    go_enter Tryd.func21, Tryd.ntmps21
    go_wp2
    go_ret
    exact ⟨rfl, Below.refl _ _⟩
  · have h1 : s.data.toList.isEmpty = false := by simpa using h0
    have hq := quote_iff s h1
    have b0 : s.toList.isEmpty = false := by rw [Lib.toList_data]; exact h1
    have b1 : ¬ s.toList = [] := fun e => by rw [e] at b0; cases b0
    have c := Tryd.strings_IndexFunc 28 #[] (enters_of Tryd.func28 (by kernel_rfl) rfl) inQ s
    have HC := Aside0.mk c
    generalize Lib.idxFunc inQ true s = i at hq c HC
    clear c h0 h1
    by_cases hi : 0 ≤ i
    · have e : fieldB s = ⟨#[34]⟩ ++ s ++ ⟨#[34]⟩ := by unfold fieldB; rw [hq, decide_eq_true hi, if_pos rfl]
      rw [e]
      clear e hq
      go_enter Tryd.func21, Tryd.ntmps21
      go_wp2_with (go_at_call 27; refine (HC.out _ (pred _)).mono ?_; rintro e w' ⟨rfl, hb⟩; have HB := Aside0.mk hb; clear hb)
      go_ret
      exact ⟨rfl, HB.out⟩
    · have e : fieldB s = s := by unfold fieldB; rw [hq, decide_eq_false hi, if_neg Bool.false_ne_true]
      rw [e]
      clear e hq
      go_enter Tryd.func21, Tryd.ntmps21
      go_wp2_with (go_at_call 27; refine (HC.out _ (pred _)).mono ?_; rintro e w' ⟨rfl, hb⟩; have HB := Aside0.mk hb; clear hb)
      go_ret
      exact ⟨rfl, HB.out⟩
end Go.Proofs.YtohhmnbcaflppaaDoor.Rd
