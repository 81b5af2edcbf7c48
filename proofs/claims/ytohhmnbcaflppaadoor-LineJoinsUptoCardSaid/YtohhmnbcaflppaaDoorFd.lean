/- A line's fields: the walk of 'line.fields'. -/
import Derived.Test.YtohhmnbcaflppaaDoorRd
import Derived.Test.YtohhmnbcaflppaaDoorUtf
namespace Go.Proofs.YtohhmnbcaflppaaDoor.Rd
open Go.RowKit Go.Proofs.YtohhmnbcaflppaaDoorW.PrintWords Go.Proofs.YtohhmnbcaflppaaDoorW.PrintLast Go.Proofs.YtohhmnbcaflppaaDoorW.PrintMore
set_option linter.unusedVariables false
set_option linter.unusedSimpArgs false
/-- A line, byte by byte. -/
def rdL : List UInt8 → RS → Option RS
  | [], s => some s
  | b :: t, s => (s.step b.toNat).bind (rdL t)
def z0 : RS := ⟨[], [], false, false, false⟩
def out : Option RS → List ByteArray × Bool
  | none => ([], false)
  | some s => (ended s.l s.acc s.bi, !s.bo)
/-- A line's fields; false: it can not be. -/
def fieldsR (s : ByteArray) : List ByteArray × Bool := out (rdL s.data.toList z0)
theorem own_iter {W : World} {B k : Nat} {e : TypeId} {size n : Nat} {v : Value} {xs : List Value} {s : ByteArray} {pos : Nat} (h : W.ownsRow B e size v n xs) (hk : W.heap[k]? = some (.stringIter s pos)) (pos' : Nat) : (W.iterAt k s pos').ownsRow B e size v n xs := by
  refine ⟨h.1, ?_⟩
  rcases h.2 with h0 | ⟨g, cap, cur, hv, hg, hh, r⟩
  · exact .inl h0
  · refine .inr ⟨g, cap, cur, hv, hg, ?_, r⟩
    rw [Lib.iterAt_other W k g s pos' (fun q => by subst q; rw [hk] at hh; cases hh)]
    exact hh
theorem IsRd.iterAt {W : World} {B g k : Nat} {l : List ByteArray} {acc : List UInt8} {bi bo br : Bool} {s : ByteArray} {pos : Nat} (h : IsRd W B g l acc bi bo br) (hk : W.heap[k]? = some (.stringIter s pos)) (pos' : Nat) : IsRd (W.iterAt k s pos') B g l acc bi bo br := by
  obtain ⟨hg, vl, va, vb, hb, hv, hl, hbuf⟩ := h
  refine ⟨hg, vl, va, vb, ?_, hv, own_iter hl hk pos', ?_⟩
  · unfold Blk at hb ⊢
    rw [Lib.iterAt_other W k g s pos' (fun q => by subst q; rw [hk] at hb; cases hb)]
    exact hb
  · rcases hbuf with h | ⟨h0, h⟩
    · exact .inl h
    · exact .inr ⟨h0, own_iter h hk pos'⟩
def FInv (s : ByteArray) (r : Option RS) (w : World) (kq : Nat) (w' : World) : Prop :=
  ∃ (st : RS) (pos : Nat), pos ≤ s.size ∧ st.l.length ≤ pos ∧ st.acc.length ≤ pos ∧ kq = s.size - pos + 1 ∧ rdL (s.data.toList.drop pos) st = r ∧ IsSt w' w.heap.size w.heap.size st ∧ w'.heap[w.heap.size + 1]? = some (.stringIter s pos) ∧ Below w.heap.size w w'
theorem rd_cons (s : ByteArray) (pos : Nat) (st : RS) (h : pos < s.size) : rdL (s.data.toList.drop pos) st = (st.step (s[pos]'h).toNat).bind (rdL (s.data.toList.drop (pos + 1))) := by
  rw [Utf.drop_cons s pos h]
  rfl
theorem rd_end (s : ByteArray) (pos : Nat) (st : RS) (h : ¬ pos < s.size) : rdL (s.data.toList.drop pos) st = some st := by
  rw [List.drop_eq_nil_of_le (by rw [Utf.len_list]; omega)]
  rfl
theorem step_high (st : RS) (c : Int) (h : 128 ≤ c) : st.step c = none := by
  unfold RS.step
  rw [if_pos (.inl (by omega))]
/-- One rune, by its byte. -/
theorem rune_step (s : ByteArray) (pos : Nat) (st : RS) (h : pos < s.size) : (∃ st', st.step ((Utf8.decode s pos).1 : Nat) = some st' ∧ (Utf8.decode s pos).2 = 1 ∧ rdL (s.data.toList.drop pos) st = rdL (s.data.toList.drop (pos + 1)) st') ∨ (st.step ((Utf8.decode s pos).1 : Nat) = none ∧ rdL (s.data.toList.drop pos) st = none) := by
  rw [rd_cons s pos st h]
  by_cases ha : (s[pos]'h).toNat < 128
  · rw [decode_ascii s pos h ha]
    cases hs : st.step ((s[pos]'h).toNat : Nat) with
    | none => exact .inr ⟨rfl, rfl⟩
    | some st' => exact .inl ⟨st', rfl, rfl, rfl⟩
  · have hh := (decode_high s pos h (by omega)).1
    refine .inr ⟨step_high st _ (by omega), ?_⟩
    rw [step_high st _ (by omega)]
    rfl
theorem step_len (st st' : RS) (c : Int) (h : st.step c = some st') : st'.l.length ≤ st.l.length + 1 ∧ st'.acc.length ≤ st.acc.length + 1 := by
  unfold RS.step at h
  have he : (ended st.l st.acc st.bi).length ≤ st.l.length + 1 := by
    unfold ended
    split <;> simp
  repeat' split at h
  all_goals first | (cases h; done) | (obtain rfl := Option.some.inj h; simp; try omega)
set_option maxHeartbeats 2000000 in
set_option maxRecDepth 100000 in
theorem fields_any (a0 : ByteArray) (w : World) (hs : a0.size ≤ 100000) :
    Calls Tryd.prog 17 #[.string a0] w fun e w' => ∃ v, e = .returned (.tuple #[v, .bool (fieldsR a0).2]) ∧ w'.ownsRow w.heap.size 9 1 v (fieldsR a0).1.length (pw_strs (fieldsR a0).1) ∧ Below w.heap.size w w' := by
  have HS := Aside0.mk hs
  obtain ⟨r, hr⟩ : ∃ r, rdL a0.data.toList z0 = r := ⟨_, rfl⟩
  have hf : fieldsR a0 = out r := by rw [← hr]; rfl
  rw [hf]
  have HR := Aside0.mk hr
  clear hr hf hs
  go_enter Tryd.func17, Tryd.ntmps17
  go_wp2
  go_loopg [] (a0.size + 1) (fun kq w' => Aside0 (FInv a0 r w kq w'))
  case atStart =>
    refine ⟨z0, 0, Nat.zero_le _, Nat.le_refl _, Nat.le_refl _, rfl, HR.out, ?_, ?_, ?_⟩
    · refine ⟨Nat.le_refl _, .slice none 0 0, .pointer none, .slice none 0 0, ?_, .inl rfl, own_nil _ _ _ _, .inl ⟨rfl, rfl⟩⟩
      exact Blk.alloc (heap_alloc_new w _) _
    · have h := World.iter_heap (w.alloc (.cells #[.slice none 0 0, .pointer none, .slice none 0 0, .bool false, .bool false, .bool false] 59)) a0 0
      simpa using h
    · exact below_alloc (below_alloc (Below.refl _ w) _) _
  case round =>
    obtain ⟨st, pos, hpos, hl, hacc, hk, hrd, hst, hit, hB⟩ := hrel.out
    clear hrel HR
    by_cases hp : pos < a0.size
    · have hnx : ∀ ty, (Instr.next (.pointer (some ⟨w.heap.size + 1, 0, none⟩)) true ty).run Tryd.prog wr = _ := fun ty => Lib.run_next_any_at wr (w.heap.size + 1) a0 pos ty hit hp
      have HST := Aside0.mk (IsRd.iterAt hst hit (pos + (Utf8.decode a0 pos).2))
      have HIT := Aside0.mk (Lib.iterAt_heap wr (w.heap.size + 1) a0 pos (pos + (Utf8.decode a0 pos).2) hit)
      have HB := Aside0.mk (Lib.below_iterAt hB (k := w.heap.size + 1) (by omega) a0 (pos + (Utf8.decode a0 pos).2))
      have hln : st.l.length < 1000000000 := by have := HS.out; omega
      have hacn : st.acc.length < 140737488355328 := by have := HS.out; omega
      have HL := Aside0.mk hl
      have HA := Aside0.mk hacc
      have HK := Aside0.mk hk
      have HRD := Aside0.mk hrd
      have HP := Aside0.mk hp
      have hcase := rune_step a0 pos st hp
      clear hst hit hB hl hacc hk hrd hpos hp
      rcases hcase with ⟨st', h1, h2, h3⟩ | ⟨h1, h2⟩
      · have HC := Aside0.mk h1
        have HW := Aside0.mk h2
        have HE := Aside0.mk h3
        clear h1 h2 h3
        go_wp2_with (go_at_call 24; refine (take_some w.heap.size w.heap.size st st' _ _ hln hacn HST.out HC.out).mono ?_; rintro e w2 ⟨rfl, q1, q2, q3⟩; have Q1 := Aside0.mk q1; have Q2 := Aside0.mk q2; have Q3 := Aside0.mk q3; clear q1 q2 q3)
        go_roundg (a0.size - (pos + 1) + 1)
        case measure => have h1 := HK.out; have h2 := HP.out; omega
        case rel =>
          refine ⟨st', pos + 1, HP.out, ?_, ?_, rfl, ?_, Q1.out, ?_, HB.out.trans Q2.out⟩
          · have h1 := step_len st st' _ HC.out; have h2 := HL.out; omega
          · have h1 := step_len st st' _ HC.out; have h2 := HA.out; omega
          · rw [← HE.out]; exact HRD.out
          · have h1 := Q3.out _ _ _ HIT.out
            rw [HW.out] at h1
            exact h1
      · have HC := Aside0.mk h1
        have HN := Aside0.mk (show r = none by rw [← HRD.out]; exact h2)
        clear h1 h2
        go_wp2_with (go_at_call 24; refine (take_none w.heap.size w.heap.size st _ _ HST.out HC.out).mono ?_; rintro e w2 ⟨rfl, rfl⟩)
        go_ret2
        rw [HN.out]
        exact ⟨_, rfl, own_nil _ _ _ _, HB.out⟩
    · have hnx : ∀ ty, (Instr.next (.pointer (some ⟨w.heap.size + 1, 0, none⟩)) true ty).run Tryd.prog wr = _ := fun ty => Lib.run_next_end_at wr (w.heap.size + 1) a0 pos ty hit hp
      have HN := Aside0.mk (show r = some st by rw [← hrd]; exact rd_end a0 pos st hp)
      have hln : st.l.length < 1000000000 := by have := HS.out; omega
      have HST := Aside0.mk hst
      have HB := Aside0.mk hB
      clear hst hit hB hl hacc hk hrd hpos hp
      go_wp2_with (go_at_call 25; refine (end_any w.heap.size w.heap.size st.l st.acc st.bi st.bo st.br _ hln HST.out).mono ?_; rintro e w2 ⟨rfl, q1, q2, q3⟩)
      obtain ⟨hg, vl, va, vb, hb, hva, hlr, hbuf⟩ := q1
      obtain ⟨A, cap, hvl⟩ := own_slice hlr
      subst hvl
      have z0 := hb.cell.1
      have z4 := hb.cell.2.2.2.2.1
      have HL2 := Aside0.mk hlr
      have HQ2 := Aside0.mk q2
      clear hb hva hlr hbuf q2 q3
      go_quiet (fail)
      go_wp2
      go_ret2
      rw [HN.out]
      exact ⟨_, rfl, HL2.out, pw_below_drewN (HB.out.trans HQ2.out) _⟩
end Go.Proofs.YtohhmnbcaflppaaDoor.Rd
