/- A source's lines: the reference splits alike; what the law compares. -/
import Derived.Test.YtohhmnbcaflppaaDoorLLemA
namespace Go.Proofs.YtohhmnbcaflppaaDoor.LNum
open Go.RowKit Go.Proofs.YtohhmnbcaflppaaDoor.PLine Go.Proofs.YtohhmnbcaflppaaDoor.Rd Go.Proofs.YtohhmnbcaflppaaDoorW.PrintWords Go.Proofs.YtohhmnbcaflppaaDoorW.PrintLast Go.Proofs.YtohhmnbcaflppaaDoorW.PrintMore
set_option linter.unusedVariables false
set_option linter.unusedSimpArgs false
theorem nlS_one : ∀ (p : List UInt8), (10 : UInt8) ∉ p → nlS p = [p]
  | [], _ => rfl
  | b :: t, h => by
    have hb : b ≠ 10 := fun e => h (by rw [e]; exact List.mem_cons_self)
    have ht := nlS_one t (fun q => h (List.mem_cons_of_mem _ q))
    rw [nlS, if_neg hb, ht]
    rfl
theorem nlS_cut : ∀ (p t : List UInt8), (10 : UInt8) ∉ p → nlS (p ++ 10 :: t) = p :: nlS t
  | [], t, _ => by rw [List.nil_append, nlS, if_pos rfl]
  | b :: p, t, h => by
    have hb : b ≠ 10 := fun e => h (by rw [e]; exact List.mem_cons_self)
    have ht := nlS_cut p t (fun q => h (List.mem_cons_of_mem _ q))
    rw [List.cons_append, nlS, if_neg hb, ht]
    rfl
/-- Lines as bytes' texts. -/
def asB (l : List (List UInt8)) : List ByteArray := l.map fun l => ⟨l.toArray⟩
theorem lines_asB (s : ByteArray) : linesOf s = asB (nlS s.data.toList) := rfl
def to44 (x : S43) : S44 := ⟨x.f0, x.f1⟩
def conv (r : List S43 × Int × Int) : List S44 × Int × Int := (r.1.map to44, r.2.1, r.2.2)
theorem data_ext {a b : ByteArray} (h : a.data.toList = b.data.toList) : a = b := ByteArray.ext (Array.toList_inj.1 h)
theorem drop_split (s : ByteArray) (a i : Nat) (h : a ≤ i) : s.data.toList.drop a = (s.extract a i).data.toList ++ s.data.toList.drop i := by
  rw [Utf.ext_list, show s.data.toList.drop i = (s.data.toList.drop a).drop (i - a) by rw [List.drop_drop]; congr 1; omega, List.take_append_drop]
theorem not_mem_ext (s : ByteArray) (a i : Nat) (hi : i ≤ s.size) (h : ∀ j (hj : j < s.size), a ≤ j → j < i → s[j] ≠ 10) : (10 : UInt8) ∉ (s.extract a i).data.toList := by
  intro hm
  rw [Utf.ext_list] at hm
  obtain ⟨j, hj, he⟩ := List.getElem_of_mem hm
  rw [List.length_take, List.length_drop, Utf.len_list] at hj
  rw [List.getElem_take, List.getElem_drop] at he
  exact h (a + j) (by omega) (by omega) (by omega) he
theorem ext_size (s : ByteArray) (a i : Nat) (hi : i ≤ s.size) : (s.extract a i).size ≤ s.size := by
  rw [ByteArray.size_extract]
  omega
/-- One line, by the reference. -/
theorem proc (s : ByteArray) (hz : s.size ≤ 8192) (n a i : Nat) (out : List S43) (r : List ByteArray) (hn : n ≤ 10000) (ha : a ≤ i) (hi : i ≤ s.size) (ho : out.length ≤ 400)
    (hK : ∀ out' : List S43, out'.length ≤ 400 → Ev (fun k => computusref06_Split.l0 k s (out'.map to44) ((n + 1 : Nat) : Int) ((i + 1 : Nat) : Int) ((i + 1 : Nat) : Int)) (conv (spL r ((n : Int) + 1) out'))) :
    Ev (fun k => computusref06_Split.j1 k s (out.map to44) (n : Int) (a : Int) (i : Int) false) (conv (spL (s.extract a i :: r) (n : Int) out)) := by
  have hw1 : wrap64 ((n : Int) + 1) = ((n + 1 : Nat) : Int) := by rw [w64 _ (by omega) (by omega)]; omega
  have hw2 : wrap64 ((i : Int) + 1) = ((i + 1 : Nat) : Int) := by rw [w64 _ (by omega) (by omega)]; omega
  refine Ev.step (fun k => by rw [computusref06_Split.j1, if_neg Bool.false_ne_true, if_pos (by omega), if_pos (by omega), if_pos (by omega), Int.toNat_natCast, Int.toNat_natCast, hw1, hw2]) ?_
  refine Ev.bind (one_ev (s.extract a i) (by have := ext_size s a i hi; omega)) ?_
  have hlen : (out.map to44).length = out.length := List.length_map ..
  rw [show spL (s.extract a i :: r) (n : Int) out = (if (fieldsR (s.extract a i)).2 = false then ([], (n : Int) + 1, 21) else if (fieldsR (s.extract a i)).1.length = 0 then spL r ((n : Int) + 1) out else if 16 < (fieldsR (s.extract a i)).1.length ∨ out.length = 400 then ([], (n : Int) + 1, 3) else spL r ((n : Int) + 1) (out ++ [⟨(n : Int) + 1, (fieldsR (s.extract a i)).1⟩])) from rfl]
  generalize fieldsR (s.extract a i) = f
  obtain ⟨fl, ok⟩ := f
  cases ok with
  | false =>
    refine Ev.congr (f := fun _ => some ([], ((n + 1 : Nat) : Int), 21)) (fun k => if_neg Bool.false_ne_true) ?_
    exact Ev.now _
  | true =>
    refine Ev.congr (fun k => if_pos rfl) ?_
    simp only [if_neg (show ¬ (true = false) by decide)]
    by_cases h16 : 16 < fl.length
    · rw [if_neg (by omega), if_pos (.inl h16)]
      refine Ev.congr (fun k => if_pos (by omega)) ?_
      exact Ev.step (f := fun _ => some ([], ((n + 1 : Nat) : Int), 3)) (fun k => by rw [computusref06_Split.j2, if_pos rfl]) (Ev.now _)
    · by_cases h0 : fl.length = 0
      · rw [if_pos h0]
        refine Ev.congr (fun k => (if_neg (by omega)).trans (if_neg (by omega))) ?_
        refine Ev.step (f := fun k => computusref06_Split.l0 k s (out.map to44) ((n + 1 : Nat) : Int) ((i + 1 : Nat) : Int) ((i + 1 : Nat) : Int)) (fun k => ?_) (hK out ho)
        rw [computusref06_Split.j2, if_neg Bool.false_ne_true, if_neg (by omega), hw2]
      · rw [if_neg h0]
        refine Ev.congr (fun k => (if_neg (by omega)).trans (if_pos (by omega))) ?_
        by_cases h4 : out.length = 400
        · rw [if_pos (.inr h4)]
          exact Ev.step (f := fun _ => some ([], ((n + 1 : Nat) : Int), 3)) (fun k => by rw [computusref06_Split.j2, decide_eq_true (by rw [hlen]; omega), if_pos rfl]) (Ev.now _)
        · rw [if_neg (by omega)]
          refine Ev.step (f := fun k => computusref06_Split.l0 k s ((out ++ [(⟨(n : Int) + 1, fl⟩ : S43)]).map to44) ((n + 1 : Nat) : Int) ((i + 1 : Nat) : Int) ((i + 1 : Nat) : Int)) (fun k => ?_) (hK _ (by rw [List.length_append]; show out.length + 1 ≤ 400; omega))
          rw [computusref06_Split.j2, decide_eq_false (by rw [hlen]; omega), if_neg Bool.false_ne_true, if_pos (by omega), if_pos (by rw [hlen]; omega), hw2, List.map_append]
          rfl
theorem split_from (s : ByteArray) (hz : s.size ≤ 8192) : ∀ (d i a n : Nat) (out : List S43), i + d = s.size → a ≤ i → n ≤ i → out.length ≤ 400 → (∀ j (hj : j < s.size), a ≤ j → j < i → s[j] ≠ 10) →
    Ev (fun k => computusref06_Split.l0 k s (out.map to44) (n : Int) (a : Int) (i : Int)) (conv (spL (asB (nlS (s.data.toList.drop a))) (n : Int) out)) := by
  intro d
  induction d with
  | zero =>
    intro i a n out hd ha hn ho hno
    have hi : i = s.size := by omega
    have hnm := not_mem_ext s a i (by omega) hno
    rw [drop_split s a i ha, List.drop_eq_nil_of_le (by rw [Utf.len_list]; omega), List.append_nil, nlS_one _ hnm]
    have e : asB [(s.extract a i).data.toList] = [s.extract a i] := by unfold asB; rw [List.map_cons, List.map_nil, of_data]
    rw [e]
    refine Ev.step (fun k => by rw [computusref06_Split.l0, if_pos (by omega), if_neg (by omega)]) ?_
    refine proc s hz n a i out [] (by omega) ha (by omega) ho (fun out' ho' => ?_)
    refine Ev.step (f := fun _ => some (conv (spL [] ((n : Int) + 1) out'))) (fun k => ?_) (Ev.now _)
    rw [computusref06_Split.l0, if_neg (by omega)]
    rfl
  | succ d ih =>
    intro i a n out hd ha hn ho hno
    have hi : i < s.size := by omega
    have hbt := bt_nat s i hi
    have hw2 : wrap64 ((i : Int) + 1) = ((i + 1 : Nat) : Int) := by rw [w64 _ (by omega) (by omega)]; omega
    by_cases h10 : s[i] = 10
    · have hnm := not_mem_ext s a i (by omega) hno
      rw [drop_split s a i ha, Utf.drop_cons s i hi, h10, nlS_cut _ _ hnm]
      have e : asB ((s.extract a i).data.toList :: nlS (s.data.toList.drop (i + 1))) = s.extract a i :: asB (nlS (s.data.toList.drop (i + 1))) := by unfold asB; rw [List.map_cons, of_data]
      rw [e]
      refine Ev.step (fun k => by rw [computusref06_Split.l0, if_pos (by omega), if_pos (by omega), if_pos (by omega), hbt, h10]) ?_
      refine proc s hz n a i out _ (by omega) ha (by omega) ho (fun out' ho' => ?_)
      exact ih (i + 1) (i + 1) (n + 1) out' (by omega) (Nat.le_refl _) (by omega) ho' (fun j hj h1 h2 => by omega)
    · refine Ev.step (f := fun k => computusref06_Split.j1 k s (out.map to44) (n : Int) (a : Int) (i : Int) true) (fun k => ?_) ?_
      · rw [computusref06_Split.l0, if_pos (by omega), if_pos (by omega), if_pos (by omega), hbt]
        have hne : ((s[i].toNat : Int) != 10) = true := by
          simp
          intro h
          exact h10 (UInt8.toNat_inj.1 (by show s[i].toNat = 10; omega))
        rw [hne]
      · refine Ev.step (f := fun k => computusref06_Split.l0 k s (out.map to44) (n : Int) (a : Int) ((i + 1 : Nat) : Int)) (fun k => by rw [computusref06_Split.j1, if_pos rfl, hw2]) ?_
        refine ih (i + 1) a n out (by omega) (by omega) (by omega) ho (fun j hj h1 h2 => ?_)
        by_cases hj2 : j = i
        · subst hj2; exact h10
        · exact hno j hj h1 (by omega)
/-- Both split alike. -/
theorem split_ev (s : ByteArray) : ∃ r, line_Split.f s = some r ∧ Ev (fun k => computusref06_Split.f k s) (conv r) := by
  unfold line_Split.f computusref06_Split.f
  by_cases hz : 8192 < s.size
  · exact ⟨_, if_pos hz, Ev.congr (fun k => if_pos (by omega)) (Ev.now _)⟩
  · refine ⟨_, if_neg hz, Ev.congr (fun k => if_neg (by omega)) ?_⟩
    exact split_from s (by omega) s.size 0 0 0 [] (by omega) (Nat.le_refl _) (Nat.le_refl _) (Nat.zero_le _) (fun j hj h1 h2 => by omega)
/-! What the law compares. -/
theorem rd_44 (l : List S44) (i : Nat) (h : i < l.length) : rd_T44 l (i : Int) = l[i] := by
  unfold rd_T44
  rw [Int.toNat_natCast, List.getD_eq_getElem?_getD, List.getElem?_eq_getElem h]
  rfl
theorem rd_43 (l : List S43) (i : Nat) (h : i < l.length) : rd_T43 l (i : Int) = l[i] := rd_T43_get l i h
theorem taken_from (l : List S43) (hl : l.length ≤ 4000000000) : ∀ (d i : Nat) , i + d = l.length → Ev (fun k => computuslaw06_taken.l0 k l ((l.take i).map to44) (i : Int)) (l.map to44) := by
  intro d
  induction d with
  | zero =>
    intro i hd
    rw [List.take_of_length_le (by omega)]
    refine Ev.step (f := fun _ => some (l.map to44)) (fun k => ?_) (Ev.now _)
    rw [computuslaw06_taken.l0, if_neg (by omega)]
  | succ d ih =>
    intro i hd
    have hi : i < l.length := by omega
    refine Ev.step (f := fun k => computuslaw06_taken.l0 k l ((l.take (i + 1)).map to44) ((i + 1 : Nat) : Int)) (fun k => ?_) (ih (i + 1) (by omega))
    have hlen : ((l.take i).map to44).length < 4398046511104 := by rw [List.length_map, List.length_take]; omega
    rw [computuslaw06_taken.l0, if_pos (by omega), if_pos (by omega), if_pos hlen, rd_43 l i hi, w64 _ (by omega) (by omega), List.take_succ_eq_append_getElem hi, List.map_append]
    rfl
theorem taken_ev (l : List S43) (hl : l.length ≤ 4000000000) : Ev (fun k => computuslaw06_taken.f k l) (l.map to44) := taken_from l hl l.length 0 (by omega)
end Go.Proofs.YtohhmnbcaflppaaDoor.LNum
