/- Any lines, as a source, are what the reference writes. -/
import Derived.Test.YtohhmnbcaflppaaDoorLLemE
namespace Go.Proofs.YtohhmnbcaflppaaDoor.LNum
open Go.RowKit Go.Proofs.YtohhmnbcaflppaaDoor.PLine Go.Proofs.YtohhmnbcaflppaaDoor.Rd Go.Proofs.YtohhmnbcaflppaaDoorW.PrintWords Go.Proofs.YtohhmnbcaflppaaDoorW.PrintLast Go.Proofs.YtohhmnbcaflppaaDoorW.PrintMore
set_option linter.unusedVariables false
set_option linter.unusedSimpArgs false
def to43 (x : S44) : S43 := ⟨x.f0, x.f1⟩
/-- How much a line holds. -/
def mesF : List ByteArray → Nat
  | [] => 0
  | f :: r => f.size + 1 + mesF r
def mes : List S44 → Nat
  | [] => 0
  | x :: r => mesF x.f1 + 1 + mes r
theorem mesF_len : ∀ fs : List ByteArray, fs.length ≤ mesF fs
  | [] => Nat.le_refl _
  | f :: r => by have := mesF_len r; rw [List.length_cons, mesF]; omega
theorem mes_len : ∀ l : List S44, l.length ≤ mes l
  | [] => Nat.le_refl _
  | f :: r => by have := mes_len r; rw [List.length_cons, mes]; omega
theorem mes_mem : ∀ (l : List S44), ∀ x ∈ l, mesF x.f1 ≤ mes l
  | [], x, hx => by cases hx
  | y :: r, x, hx => by
    rw [mes]
    rcases List.mem_cons.1 hx with rfl | hx
    · omega
    · have := mes_mem r x hx; omega
theorem lineL_mes : ∀ (fs : List ByteArray) (b : Bool), (lineL b fs).length ≤ 3 * mesF fs
  | [], b => by cases b <;> simp [lineL]
  | f :: r, b => by
    have ih := lineL_mes r false
    have hf := fieldB_size f
    have hl : (fieldB f).data.toList.length = (fieldB f).size := Utf.len_list _
    have hb : (if b = true then ([] : List UInt8) else [32]).length ≤ 1 := by cases b <;> simp
    rw [lineL, List.length_append, List.length_append, mesF]
    omega
theorem joinL_mes : ∀ (l : List S44), (joinL (l.map to43)).length ≤ 3 * mes l
  | [] => by simp [joinL]
  | x :: r => by
    have ih := joinL_mes r
    have h1 := lineL_mes x.f1 true
    have e : (to43 x).f1 = x.f1 := rfl
    rw [List.map_cons, joinL, e, List.length_append, List.length_cons, mes]
    omega
theorem to_back (l : List S44) : (l.map to43).map to44 = l := by
  rw [List.map_map]
  conv => rhs; rw [← List.map_id l]
  exact List.map_congr_left (fun x _ => rfl)
theorem given_from (l : List S44) (hl : mes l ≤ 1048576) : ∀ (d i : Nat) , i + d = l.length → Ev (fun k => computuslaw06_given.l0 k l ((l.take i).map to43) (i : Int)) (l.map to43) := by
  have hlen := mes_len l
  intro d
  induction d with
  | zero =>
    intro i hd
    rw [List.take_of_length_le (by omega)]
    refine Ev.step (f := fun _ => some (l.map to43)) (fun k => ?_) (Ev.now _)
    rw [computuslaw06_given.l0, if_neg (by omega)]
  | succ d ih =>
    intro i hd
    have hi : i < l.length := by omega
    have hm := mes_mem l l[i] (List.getElem_mem hi)
    have hml := mesF_len l[i].f1
    refine Ev.step (f := fun k => computuslaw06_given.l0 k l ((l.take (i + 1)).map to43) ((i + 1 : Nat) : Int)) (fun k => ?_) (ih (i + 1) (by omega))
    have hll : ((l.take i).map to43).length < 4398046511104 := by rw [List.length_map, List.length_take]; omega
    rw [computuslaw06_given.l0, if_pos (by omega), if_pos (by omega), rd_44 l i hi, if_pos (by show 0 + l[i].f1.length < _; omega), if_pos hll, w64 _ (by omega) (by omega), List.take_succ_eq_append_getElem hi, List.map_append]
    rfl
theorem given_ev (l : List S44) (hl : mes l ≤ 1048576) : Ev (fun k => computuslaw06_given.f k l) (l.map to43) := given_from l hl l.length 0 (by omega)
def QB (b : UInt8) : Bool := b == 32 || b == 9 || b == 35
theorem quote_QB (f : ByteArray) : quoteB f = (((f.size : Int) == 0) || f.data.toList.any QB) := by
  unfold quoteB
  congr 1
  have h := Utf.len_list f
  cases hd : f.data.toList with
  | nil => rw [hd] at h; have h2 : f.size = 0 := h.symm; rw [h2]; rfl
  | cons b t =>
    rw [hd, List.length_cons] at h
    have : ((f.size : Int) == 0) = false := by rw [beq_eq_false_iff_ne]; omega
    rw [this]
    rfl
theorem scan_from (l : List S44) (x3 : List Int) (i j : Int) (f : ByteArray) (hz : f.size ≤ 1048576) (r : ByteArray) : ∀ (e p : Nat) (q : Bool), p + e = f.size →
    Ev (fun k => if j > 0 then (if x3.length < 140737488355328 then (computusref06_Join.j3 k l (x3 ++ [32]) i j f (q || (f.data.toList.drop p).any QB)) else (none)) else (computusref06_Join.j3 k l x3 i j f (q || (f.data.toList.drop p).any QB))) r →
    Ev (fun k => computusref06_Join.l2 k l x3 i j f q (p : Int)) r := by
  intro e
  induction e with
  | zero =>
    intro p q hp h
    rw [List.drop_eq_nil_of_le (by rw [Utf.len_list]; omega)] at h
    simp only [List.any_nil, Bool.or_false] at h
    refine Ev.step (fun k => ?_) h
    rw [computusref06_Join.l2, if_neg (by omega)]
  | succ e ih =>
    intro p q hp h
    have hlt : p < f.size := by omega
    rw [Utf.drop_cons f p hlt, List.any_cons, ← Bool.or_assoc] at h
    have hbt := bt_nat f p hlt
    refine Ev.step (f := fun k => computusref06_Join.l2 k l x3 i j f (q || QB f[p]) ((p + 1 : Nat) : Int)) (fun k => ?_) (ih (p + 1) _ (by omega) h)
    rw [computusref06_Join.l2, if_pos (by omega), w64 _ (by omega) (by omega)]
    cases q with
    | true => rw [if_pos rfl]; rfl
    | false =>
      rw [if_neg Bool.false_ne_true, if_pos (by omega), hbt, Bool.false_or]
      have hQ : ∀ b : Bool, (b = true ↔ (f[p].toNat = 32 ∨ f[p].toNat = 9 ∨ f[p].toNat = 35)) → QB f[p] = b := by
        intro b hb
        rw [Bool.eq_iff_iff, hb]
        unfold QB
        simp only [Bool.or_eq_true, beq_iff_eq, ← UInt8.toNat_inj]
        have e32 : (32 : UInt8).toNat = 32 := rfl
        have e9 : (9 : UInt8).toNat = 9 := rfl
        have e35 : (35 : UInt8).toNat = 35 := rfl
        rw [e32, e9, e35]
        omega
      by_cases h1 : (f[p].toNat : Int) = 32
      · rw [if_pos h1, hQ true ⟨fun _ => by omega, fun _ => rfl⟩]; rfl
      · rw [if_neg h1]
        by_cases h2 : (f[p].toNat : Int) = 9
        · rw [if_pos h2, hQ true ⟨fun _ => by omega, fun _ => rfl⟩]; rfl
        · rw [if_neg h2, hQ ((f[p].toNat : Int) == 35) (by rw [beq_iff_eq]; omega)]; rfl
theorem bytes_ints (f : ByteArray) : bytesOf f = ints f.data.toList := rfl
/-- The field itself. -/
theorem field_ev (l : List S44) (acc : List UInt8) (i j : Nat) (f r : ByteArray) (h2 : acc.length ≤ 4000000) (hf : f.size ≤ 1048576) (hj : j ≤ 1048576) (h : Ev (fun k => computusref06_Join.l1 k l (ints (acc ++ (fieldB f).data.toList)) (i : Int) ((j + 1 : Nat) : Int)) r) : Ev (fun k => computusref06_Join.j3 k l (ints acc) (i : Int) (j : Int) f (quoteB f)) r := by
  have wj : wrap64 ((j : Int) + 1) = ((j + 1 : Nat) : Int) := by rw [w64 _ (by omega) (by omega)]; omega
  have hfd : f.data.toList.length = f.size := Utf.len_list _
  rw [field_data] at h
  by_cases hq : quoteB f = true
  · rw [if_pos hq] at h
    refine Ev.step (fun k => ?_) h
    have e34 : ([34] : List Int) = ints [34] := rfl
    have l1 : (ints acc ++ ints [34]).length + f.size < 140737488355328 := by rw [List.length_append, ints_len, ints_len]; show acc.length + 1 + f.size < _; omega
    have l2 : (ints acc ++ ints [34] ++ ints f.data.toList).length < 140737488355328 := by rw [List.length_append, List.length_append, ints_len, ints_len, ints_len, hfd]; show acc.length + 1 + f.size < _; omega
    rw [computusref06_Join.j3, if_pos hq, if_pos (by rw [ints_len]; omega), Option.bind_some, e34, if_pos l1, Option.bind_some, bytes_ints, if_pos l2, wj, ← ints_app, ← ints_app, ← ints_app]
    simp only [List.append_assoc, List.cons_append, List.nil_append]
  · rw [if_neg hq] at h
    refine Ev.step (fun k => ?_) h
    rw [computusref06_Join.j3, if_neg hq, if_pos (by rw [ints_len]; omega), wj, bytes_ints, ints_app]
/-- A field, with what stands before it. -/
theorem one_field (l : List S44) (acc : List UInt8) (i j : Nat) (f r : ByteArray) (h2 : acc.length ≤ 3900000) (hf : f.size ≤ 1048576) (hj : j ≤ 1048576)
    (h : Ev (fun k => computusref06_Join.l1 k l (ints (acc ++ ((if (j == 0) = true then ([] : List UInt8) else [32]) ++ (fieldB f).data.toList))) (i : Int) ((j + 1 : Nat) : Int)) r) : Ev (fun k => computusref06_Join.l2 k l (ints acc) (i : Int) (j : Int) f (((f.size : Int) == 0)) ((0 : Nat) : Int)) r := by
  refine scan_from l (ints acc) (i : Int) (j : Int) f hf _ f.size 0 _ (Nat.zero_add _) ?_
  rw [List.drop_zero, ← quote_QB]
  by_cases hj0 : j = 0
  · have e0 : (j == 0) = true := by simp [hj0]
    rw [e0, if_pos rfl, List.nil_append] at h
    exact Ev.congr (fun k => if_neg (by omega)) (field_ev l acc i j f r (by omega) hf hj h)
  · have e0 : (j == 0) = false := by simp [hj0]
    rw [e0, if_neg Bool.false_ne_true, ← List.append_assoc] at h
    refine Ev.congr (fun k => (if_pos (by omega)).trans (if_pos (by rw [ints_len]; omega))) ?_
    have e32 : ([32] : List Int) = ints [32] := rfl
    rw [e32, ← ints_app]
    exact field_ev l (acc ++ [32]) i j f r (by rw [List.length_append]; show acc.length + 1 ≤ _; omega) hf hj h
theorem mesF_mem : ∀ (fs : List ByteArray), ∀ g ∈ fs, g.size ≤ mesF fs
  | [], g, hg => by cases hg
  | x :: r, g, hg => by
    rw [mesF]
    rcases List.mem_cons.1 hg with rfl | hg
    · omega
    · have := mesF_mem r g hg; omega
/-- One line. -/
theorem one_line (l : List S44) (i : Nat) (hi : i < l.length) (hm : mesF l[i].f1 ≤ 1048576) (hil : i ≤ 1048576) (T rest : List UInt8) (hT : T.length ≤ 3500000) (r : ByteArray)
    (hK : ∀ acc : List UInt8, acc ++ rest = T → Ev (fun k => computusref06_Join.l0 k l (ints acc) ((i + 1 : Nat) : Int)) r) :
    ∀ (e j : Nat) (acc : List UInt8), j + e = l[i].f1.length → acc ++ (lineL (j == 0) (l[i].f1.drop j) ++ 10 :: rest) = T → Ev (fun k => computusref06_Join.l1 k l (ints acc) (i : Int) (j : Int)) r := by
  have hml := mesF_len l[i].f1
  intro e
  induction e with
  | zero =>
    intro j acc he ha
    rw [List.drop_eq_nil_of_le (by omega)] at ha
    have ha2 : (acc ++ [10]) ++ rest = T := by
      rw [← ha, List.append_assoc]
      cases (j == 0) <;> rfl
    have hal := congrArg List.length ha2
    rw [List.length_append, List.length_append] at hal
    have hacc : acc.length ≤ 3500000 := by omega
    refine Ev.step (f := fun k => computusref06_Join.l0 k l (ints (acc ++ [10])) ((i + 1 : Nat) : Int)) (fun k => ?_) (hK _ ha2)
    have wi : wrap64 ((i : Int) + 1) = ((i + 1 : Nat) : Int) := by rw [w64 _ (by omega) (by omega)]; omega
    rw [computusref06_Join.l1, if_pos (by omega), if_pos (by omega), rd_44 l i hi, if_neg (by omega), if_pos (by rw [ints_len]; omega), wi, ints_app]
    rfl
  | succ e ihe =>
    intro j acc he ha
    have hj : j < l[i].f1.length := by omega
    have hjm : j ≤ 1048576 := by omega
    rw [lineL_cons l[i].f1 j hj] at ha
    have hfm : (rdOf ByteArray.empty l[i].f1 (j : Int)).size ≤ 1048576 := by
      rw [rdOf_get _ _ hj]
      have := mesF_mem _ _ (List.getElem_mem hj)
      omega
    have hstep : ∀ k, computusref06_Join.l1 (k + 1) l (ints acc) (i : Int) (j : Int) = computusref06_Join.l2 k l (ints acc) (i : Int) (j : Int) (rdOf ByteArray.empty l[i].f1 (j : Int)) (((rdOf ByteArray.empty l[i].f1 (j : Int)).size : Int) == 0) ((0 : Nat) : Int) := by
      intro k
      rw [computusref06_Join.l1, if_pos (by omega), if_pos (by omega), rd_44 l i hi, if_pos (by omega), if_pos (by omega)]
      rfl
    refine Ev.step hstep ?_
    generalize rdOf ByteArray.empty l[i].f1 (j : Int) = f at ha hfm
    have hal := congrArg List.length ha
    rw [List.length_append] at hal
    refine one_field l acc i j f r (by omega) hfm hjm (ihe (j + 1) _ (by omega) ?_)
    have hz : ((j + 1) == 0) = false := by simp
    rw [hz, ← ha]
    simp only [List.append_assoc]
theorem join_ev (l : List S44) (hl : mes l ≤ 1048576) : Ev (fun k => computusref06_Join.f k l) ⟨(joinL (l.map to43)).toArray⟩ := by
  have hT := joinL_mes l
  have hlen := mes_len l
  generalize hTe : joinL (l.map to43) = T at hT
  have hT2 : T.length ≤ 3500000 := by omega
  have outer : ∀ (d i : Nat) (acc : List UInt8), i + d = l.length → acc ++ joinL ((l.drop i).map to43) = T → Ev (fun k => computusref06_Join.l0 k l (ints acc) (i : Int)) ⟨T.toArray⟩ := by
    intro d
    induction d with
    | zero =>
      intro i acc hd ha
      rw [List.drop_eq_nil_of_le (by omega)] at ha
      have ha2 : acc = T := by rw [← ha]; simp [joinL]
      refine Ev.step (f := fun _ => some ⟨T.toArray⟩) (fun k => ?_) (Ev.now _)
      rw [computusref06_Join.l0, if_neg (by omega), str_ints, ha2]
    | succ d ih =>
      intro i acc hd ha
      have hi : i < l.length := by omega
      have hm := mes_mem l l[i] (List.getElem_mem hi)
      have hdrop : joinL ((l.drop i).map to43) = lineL true l[i].f1 ++ 10 :: joinL ((l.drop (i + 1)).map to43) := by
        rw [List.drop_eq_getElem_cons hi]
        rfl
      rw [hdrop] at ha
      refine Ev.step (f := fun k => computusref06_Join.l1 k l (ints acc) (i : Int) ((0 : Nat) : Int)) (fun k => ?_) (one_line l i hi (by omega) (by omega) T _ hT2 _ (fun acc2 h2 => ih (i + 1) acc2 (by omega) h2) _ 0 acc (Nat.zero_add _) ha)
      rw [computusref06_Join.l0, if_pos (by omega)]
      rfl
  exact outer l.length 0 [] (Nat.zero_add _) (by rw [List.drop_zero, hTe]; rfl)
/-- The law. -/
theorem joins (l : List S44) (hl : mes l ≤ 1048576) : ∃ k, computuslaw06_LineJoins.f k l = some true := by
  have hT := joinL_mes l
  have hlen := mes_len l
  refine Ev.rounds (r := true) ?_
  unfold computuslaw06_LineJoins.f
  have hj : line_Join.f (l.map to43) = some ⟨(joinL (l.map to43)).toArray⟩ := by
    unfold line_Join.f
    rw [if_pos (by omega)]
  have ht := taken_ev (l.map to43) (by rw [List.length_map]; omega)
  rw [to_back] at ht
  refine Ev.bind (given_ev l hl) ?_
  simp only [hj, Option.bind_some]
  refine Ev.bind (join_ev l hl) ?_
  simp only [if_true]
  refine Ev.bind ht (Ev.bind (same_ev true l l (like_refl true l) (by omega) (fun x hx => ?_)) ?_)
  · have h1 := mes_mem l x hx
    have h2 := mesF_len x.f1
    omega
  · simp only [if_true, computuslaw06_known.f, Option.bind_some]
    exact Ev.now _
end Go.Proofs.YtohhmnbcaflppaaDoor.LNum
