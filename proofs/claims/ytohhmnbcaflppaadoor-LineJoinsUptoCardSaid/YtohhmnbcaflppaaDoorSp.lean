/- A source's lines: strings.Split at a byte 10. -/
import Derived.Test.YtohhmnbcaflppaaDoorShelf
import Derived.Test.YtohhmnbcaflppaaDoorFd
namespace Go.Proofs.YtohhmnbcaflppaaDoor.Rd
open Go.RowKit Go.Proofs.YtohhmnbcaflppaaDoorW.PrintWords Go.Proofs.YtohhmnbcaflppaaDoorW.PrintLast Go.Proofs.YtohhmnbcaflppaaDoorW.PrintMore
set_option linter.unusedVariables false
set_option linter.unusedSimpArgs false
/-- A row of bytes, cut at each 10. -/
def nlS : List UInt8 → List (List UInt8)
  | [] => [[]]
  | b :: t => if b = 10 then [] :: nlS t else (b :: (nlS t).headD []) :: (nlS t).tail
theorem nlS_ne (l : List UInt8) : nlS l = (nlS l).headD [] :: (nlS l).tail := by
  cases l with
  | nil => rfl
  | cons b t =>
    unfold nlS
    split <;> rfl
theorem split_nlS : ∀ (s : List UInt8) (k : Nat), s.count 10 ≤ k → Lib.splitK [10] 0 k s = nlS s := by
  intro s
  induction s with
  | nil =>
    intro k _
    cases k with
    | zero => rfl
    | succ k => rfl
  | cons b t ih =>
    intro k hk
    by_cases hb : b = 10
    · subst hb
      rw [List.count_cons_self] at hk
      obtain ⟨k, rfl⟩ : ∃ m, k = m + 1 := ⟨k - 1, by omega⟩
      have hi : Lib.index (10 :: t) [10] = 0 := by rw [Lib.index_one]; simp [Lib.indexByte]
      unfold Lib.splitK
      rw [hi]
      simp [nlS, ih k (by omega)]
    · rw [List.count_cons_of_ne hb] at hk
      have e : nlS (b :: t) = (b :: (nlS t).headD []) :: (nlS t).tail := by rw [nlS, if_neg hb]
      rw [e]
      cases k with
      | zero =>
        have h0 := ih 0 hk
        rw [← h0]
        rfl
      | succ k =>
        have h0 := ih (k + 1) hk
        rw [← h0]
        unfold Lib.splitK
        have hi : Lib.index (b :: t) [10] = if Lib.index t [10] = -1 then -1 else Lib.index t [10] + 1 := by
          rw [Lib.index_one, Lib.index_one]
          simp [Lib.indexByte, hb]
        have hge := Lib.indexByte_ge t 10
        rw [← Lib.index_one] at hge
        rw [hi]
        by_cases hn : Lib.index t [10] = -1
        · rw [hn]
          rfl
        · obtain ⟨i, hi2⟩ : ∃ i : Nat, Lib.index t [10] = i := ⟨(Lib.index t [10]).toNat, by omega⟩
          rw [hi2]
          simp
          intro h
          omega
/-- The lines of a source. -/
def linesOf (s : ByteArray) : List ByteArray := (nlS s.data.toList).map fun l => ⟨l.toArray⟩
theorem of_data (s : ByteArray) : (⟨s.data.toList.toArray⟩ : ByteArray) = s := by
  apply ByteArray.ext
  simp
theorem splitB_lines (s : ByteArray) : Lib.splitB ⟨#[10]⟩ 0 (Lib.countB s ⟨#[10]⟩) s = linesOf s := by
  have h := Lib.splitB_data ⟨#[10]⟩ 0 (Lib.countB s ⟨#[10]⟩) s
  have hc : Lib.countB s ⟨#[10]⟩ = s.data.toList.count 10 := Lib.count_one 10 s.data.toList
  have h2 := split_nlS s.data.toList (Lib.countB s ⟨#[10]⟩) (by rw [hc]; exact Nat.le_refl _)
  have e : (⟨#[10]⟩ : ByteArray).data.toList = [10] := rfl
  rw [e, h2] at h
  unfold linesOf
  rw [← h, List.map_map]
  conv => lhs; rw [← List.map_id (Lib.splitB _ _ _ _)]
  exact List.map_congr_left (fun x _ => (of_data x).symm)
theorem lines_len (s : ByteArray) : (linesOf s).length = Lib.countB s ⟨#[10]⟩ + 1 := by
  rw [← splitB_lines]
  exact Lib.splitB_all _ (by decide) 0 _ s rfl
theorem lines_le (s : ByteArray) : (linesOf s).length ≤ s.size + 1 := by
  have h1 := lines_len s
  have h2 := Lib.countB_le ⟨#[10]⟩ (by decide) s.size s (Nat.le_refl _)
  omega
theorem nlS_len : ∀ (l : List UInt8), ∀ p ∈ nlS l, p.length ≤ l.length
  | [], p, h => by
    simp [nlS] at h
    subst h
    exact Nat.le_refl _
  | b :: t, p, h => by
    have ih := nlS_len t
    unfold nlS at h
    split at h
    · rcases List.mem_cons.1 h with rfl | h
      · exact Nat.zero_le _
      · have := ih p h
        rw [List.length_cons]; omega
    · have e := nlS_ne t
      rcases List.mem_cons.1 h with rfl | h
      · have := ih ((nlS t).headD []) (by rw [e]; exact List.mem_cons_self)
        rw [List.length_cons, List.length_cons]; omega
      · have := ih p (by rw [e]; exact List.mem_cons_of_mem _ h)
        rw [List.length_cons]; omega
theorem lines_size (s p : ByteArray) (h : p ∈ linesOf s) : p.size ≤ s.size := by
  unfold linesOf at h
  obtain ⟨l, hl, rfl⟩ := List.mem_map.1 h
  have := nlS_len _ l hl
  rw [Utf.len_list] at this
  exact this
set_option maxHeartbeats 1000000 in
set_option maxRecDepth 100000 in
/-- strings.Split at a line's end. -/
theorem splitLines (s : ByteArray) (w : World) (hs : s.size < 4294967281) :
    Calls Tryd.prog 16 #[.string s, .string ⟨#[10]⟩] w fun e w' => e = .returned (.slice (some ⟨w.heap.size, 0, none⟩) (linesOf s).length (linesOf s).length) ∧ w' = w.alloc (.cells ((linesOf s).map Value.string).toArray 9) := by
  have hle := Lib.countB_le ⟨#[10]⟩ (by decide) s.size s (Nat.le_refl _)
  have hlen := Lib.splitB_all ⟨#[10]⟩ (by decide) 0 _ s rfl
  have c := Any.strings_genSplit_core Tryd.lays221 (by kernel_rfl) s ⟨#[10]⟩ 0 (-1) (Lib.countB s ⟨#[10]⟩ + 1) w hs (by decide) (by decide)
    (fun x c hx => (Tryd.strings_Index_one x 10 _).mono (fun e w' h => ⟨by rw [h.1, ← Lib.index_one], h.2⟩))
    ((Tryd.strings_Count_one s 10 w).mono (fun e w' h => ⟨by rw [h.1, show Lib.countB s ⟨#[10]⟩ = s.data.toList.count 10 from Lib.count_one 10 s.data.toList, Lib.countByte], h.2⟩))
    (by decide) (by decide) (by rw [if_pos (by decide)]; omega)
  rw [Nat.add_sub_cancel, hlen] at c
  have e2 : Lib.cellsOf (Lib.splitB ⟨#[10]⟩ 0 (Lib.countB s ⟨#[10]⟩) s) (Lib.countB s ⟨#[10]⟩ + 1) = ((Lib.splitB ⟨#[10]⟩ 0 (Lib.countB s ⟨#[10]⟩) s).map Value.string).toArray := by rw [← hlen]; exact Lib.cellsOf_full _
  rw [e2, splitB_lines, ← lines_len] at c
  have C : Calls Tryd.prog 23 #[.string s, .string ⟨#[10]⟩, .int .i64 0, .int .i64 (-1)] w fun e w' => e = .returned (.slice (some ⟨w.heap.size, 0, none⟩) (linesOf s).length (linesOf s).length) ∧ w' = w.alloc (.cells ((linesOf s).map Value.string).toArray 9) := c
  have HC := Aside0.mk C
  clear c C e2 hlen hle
  go_enter Tryd.func16, Tryd.ntmps16
  go_wp2_with (go_at_call 23; refine HC.out.mono ?_; rintro e w' ⟨rfl, rfl⟩)
  go_ret
  exact ⟨rfl, rfl⟩
end Go.Proofs.YtohhmnbcaflppaaDoor.Rd
