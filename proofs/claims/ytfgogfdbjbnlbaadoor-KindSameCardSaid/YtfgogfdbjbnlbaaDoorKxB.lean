/- What the claim of CardKindSame needs, out of the session's texts, in their order. -/
import Derived.Test.YtfgogfdbjbnlbaaDoorKxA
section
namespace Go.Proofs.YtfgogfdbjbnlbaaDoor.PExpr
open Go.RowKit Go.Proofs.YtfgogfdbjbnlbaaDoorW.PrintWords Go.Proofs.YtfgogfdbjbnlbaaDoorW.PrintLast Go.Proofs.YtfgogfdbjbnlbaaDoorW.PrintMore
set_option linter.unusedVariables false
set_option linter.unusedSimpArgs false
theorem fin_range : ∀ op ∈ opsL, ∀ a ∈ argsS, (findF op a).2.2 = true → 1 ≤ (findF op a).1 ∧ (findF op a).1 ≤ 8 := by decide +kernel
theorem find_range (op : ByteArray) (l : List Int) (h : ¬ (findF op l).2.2 = false) : 1 ≤ (findF op l).1 ∧ (findF op l).1 ≤ 8 := by
  have h' : (findF op l).2.2 = true := by cases hq : (findF op l).2.2 <;> simp_all
  by_cases hl : l ∈ argsS
  · by_cases ho : op ∈ opsL
    · exact fin_range op ho l hl h'
    · exfalso
      refine h ?_
      unfold findF
      rw [if_pos (args_ok l hl), tab_none op _ tableL (fun r hr q => ho (q ▸ List.mem_map.2 ⟨r, hr, rfl⟩))]
      rfl
  · exact absurd (by rw [find_out op l hl]) h
theorem lit_range (s : ByteArray) (h : hasB types4 s = true) : 1 ≤ posN s 0 nmL + 1 ∧ posN s 0 nmL + 1 ≤ 8 := by
  unfold hasB at h
  obtain ⟨x, hx, h2⟩ := List.any_eq_true.1 h
  have e : s = x := by
    have e' : s.data.toList = x.data.toList := by simpa using h2
    exact ByteArray.ext (Array.toList_inj.mp e')
  subst e
  unfold types4 at hx
  simp only [List.mem_cons, List.not_mem_nil, or_false] at hx
  rcases hx with rfl | rfl | rfl | rfl <;> decide +kernel
def InR : LR → Prop
  | .one k => 1 ≤ k ∧ k ≤ 8
  | .many k => 1 ≤ k ∧ k ≤ 8
  | .wrong _ => True
theorem args_wrong {look : Nd → Option LR} : ∀ (l : List Nd) (acc : List Int) (r : LR), argsF look l acc = some (.inl r) → ∃ p, r = .wrong p
  | [], acc, r, h => by cases h
  | x :: l, acc, r, h => by
    rw [argsF] at h
    obtain ⟨q, _, h2⟩ := Option.bind_eq_some_iff.mp h
    cases q with
    | wrong p =>
      injection h2 with h2
      injection h2 with h2
      exact ⟨p, h2.symm⟩
    | many k =>
      injection h2 with h2
      injection h2 with h2
      exact ⟨_, h2.symm⟩
    | one k =>
      have h3 : (if acc.length < 1000000 then argsF look l (acc ++ [k]) else none) = some (.inl r) := h2
      by_cases ha : acc.length < 1000000
      · rw [if_pos ha] at h3
        exact args_wrong l _ r h3
      · rw [if_neg ha] at h3
        cases h3
theorem look_range (f D : Nat) (n : Nd) (R : LR) (hf : Fine D n) (h : lookF f n = some R) : InR R := by
  cases f with
  | zero => cases h
  | succ f =>
    rw [lookF] at h
    by_cases h1 : n.f0 = 1
    · rw [if_pos h1] at h
      obtain rfl := Option.some.inj h
      exact ⟨by decide, by decide⟩
    rw [if_neg h1] at h
    by_cases h2 : n.f0 = 2
    · rw [if_pos h2] at h
      obtain rfl := Option.some.inj h
      exact ⟨by decide, by decide⟩
    rw [if_neg h2] at h
    by_cases h3 : n.f0 = 3
    · rw [if_pos h3] at h
      obtain rfl := Option.some.inj h
      exact ⟨by decide, by decide⟩
    rw [if_neg h3] at h
    by_cases h4 : n.f0 = 4
    · rw [if_pos h4] at h
      obtain rfl := Option.some.inj h
      exact ⟨by decide, by decide⟩
    rw [if_neg h4] at h
    by_cases h5 : n.f0 = 5
    · rw [if_pos h5, kind_some _ 20 (Nat.le_refl _)] at h
      obtain rfl := Option.some.inj h
      cases hf with
      | mk _ _ _ _ q5 _ => exact lit_range n.f1 (q5 h5)
    rw [if_neg h5] at h
    by_cases hn : n.f2.length ≤ 1000000
    · rw [if_pos hn] at h
      obtain ⟨q, hq, h6⟩ := Option.bind_eq_some_iff.mp h
      cases q with
      | inl r =>
        obtain ⟨p, rfl⟩ := args_wrong _ _ _ hq
        obtain rfl := Option.some.inj h6
        trivial
      | inr a =>
        obtain ⟨o, ho, h8⟩ := Option.bind_eq_some_iff.mp h6
        obtain rfl := Option.some.inj h8
        by_cases hg : (findF o a).2.2 = false
        · rw [if_pos hg]
          trivial
        · have := find_range o a hg
          rw [if_neg hg]
          by_cases hm : (findF o a).2.1 = true
          · rw [if_pos hm]
            exact this
          · rw [if_neg hm]
            exact this
    · rw [if_neg hn] at h
      cases h
theorem look_add (f : Nat) (n : Nd) (R : LR) (h : lookF f n = some R) : ∀ e, lookF (f + e) n = some R
  | 0 => h
  | e + 1 => look_more (f + e) n R (look_add f n R h e)
theorem check_bad {s : ByteArray} {n : Nd} {pos why : Int} (h : parseS s = some (n, pos, why)) (hw : why ≠ 0) : computuslaw23_check.f s = some (0, false, pos, why) := by
  unfold computuslaw23_check.f expr_Parse.f
  rw [h]
  exact if_neg hw
theorem check_ok {s : ByteArray} {n : Nd} {pos : Int} {R : LR} (h : parseS s = some (n, pos, 0)) (hR : lookF 3000 n = some R) : computuslaw23_check.f s = some (lrC R) := by
  unfold computuslaw23_check.f expr_Parse.f
  rw [h]
  simp only [Option.map_some, Option.bind_some]
  rw [if_pos trivial]
  have e : kind_Check.f n.f0 n.f1 n.f2 n.f3 = some (lrC R) := by
    unfold kind_Check.f checkF
    have : (⟨n.f0, n.f1, n.f2, n.f3⟩ : Nd) = n := by cases n; rfl
    rw [this, hR]
    rfl
  rw [e]
  rfl
def nmK (k : Int) : ByteArray := (kind_Name.f k).getD ⟨#[]⟩
theorem nmK_fin : ∀ k : Fin 9, kind_Name.f (k.val : Int) = some (nmK k.val) := by decide +kernel
theorem nmK_f (k : Int) (h : 1 ≤ k ∧ k ≤ 8) : kind_Name.f k = some (nmK k) := by
  have := nmK_fin ⟨k.toNat, by omega⟩
  rw [show (((⟨k.toNat, by omega⟩ : Fin 9).val : Nat) : Int) = k from by show ((k.toNat : Nat) : Int) = k; omega] at this
  exact this
theorem nm_ok (nm : ByteArray) (h1 : word_Split.f nm = some ([⟨2, nm, 0⟩], 0, 0)) (h2 : lowS nm = nm) (h3 : ¬ nm = sQuote) (h4 : hasB kept8 nm = false) (h5 : nm.size ≤ 20) : NmOk nm := ⟨(split_run h1).2, h2, h3, h4, h5⟩
theorem nmK_ok (k : Int) (h : 1 ≤ k ∧ k ≤ 8) : NmOk (nmK k) := by
  have hk : k = 1 ∨ k = 2 ∨ k = 3 ∨ k = 4 ∨ k = 5 ∨ k = 6 ∨ k = 7 ∨ k = 8 := by omega
  rcases hk with rfl | rfl | rfl | rfl | rfl | rfl | rfl | rfl <;> exact nm_ok _ (by kernel_rfl) (by kernel_rfl) (by decide +kernel) (by kernel_rfl) (by decide +kernel)
def castR (nm : ByteArray) (n : Nd) (q : Int) : LR → LR
  | .wrong p => .wrong p
  | .many _ => .wrong n.f3
  | .one k => if (findF ((⟨#[58, 58]⟩ : ByteArray) ++ nm) [k]).2.2 = false then .wrong q else if (findF ((⟨#[58, 58]⟩ : ByteArray) ++ nm) [k]).2.1 = true then .many (findF ((⟨#[58, 58]⟩ : ByteArray) ++ nm) [k]).1 else .one (findF ((⟨#[58, 58]⟩ : ByteArray) ++ nm) [k]).1
theorem look_cast {f : Nat} {nm : ByteArray} {n : Nd} {q : Int} {R : LR} (hs : nm.size ≤ 20) (h : lookF f n = some R) : lookF (f + 1) ⟨10, nm, [n], q⟩ = some (castR nm n q R) := by
  rw [lookF]
  show (if (10 : Int) = 1 then _ else if (10 : Int) = 2 then _ else if (10 : Int) = 3 then _ else if (10 : Int) = 4 then _ else if (10 : Int) = 5 then _ else if [n].length ≤ 1000000 then (argsF (lookF f) [n] []).bind (lastF ⟨10, nm, [n], q⟩) else none) = _
  rw [if_neg (by decide), if_neg (by decide), if_neg (by decide), if_neg (by decide), if_neg (by decide), if_pos (by rw [List.length_singleton]; omega), argsF, h]
  cases R with
  | wrong p => rfl
  | many k => rfl
  | one k =>
    show ((if ([] : List Int).length < 1000000 then argsF (lookF f) [] ([] ++ [k]) else none)).bind _ = _
    rw [if_pos (by rw [List.length_nil]; omega), argsF]
    show (kind_operation.f 10 nm [n] q).bind _ = _
    unfold kind_operation.f
    rw [if_neg (by decide), if_neg (by decide), if_pos rfl, if_pos (by omega)]
    rfl
end Go.Proofs.YtfgogfdbjbnlbaaDoor.PExpr
end
section
namespace Go.Proofs.YtfgogfdbjbnlbaaDoor.Pure
open Go.RowKit Go.Proofs.YtfgogfdbjbnlbaaDoor.PExpr Go.Proofs.YtfgogfdbjbnlbaaDoorW.PrintWords Go.Proofs.YtfgogfdbjbnlbaaDoorW.PrintLast Go.Proofs.YtfgogfdbjbnlbaaDoorW.PrintMore
set_option linter.unusedVariables false
set_option linter.unusedSimpArgs false
theorem same_known (k : Nat) (s : ByteArray) (a : Int) (l : Bool) : computuslaw23_KindSame.j0 (k + 1) s a l true = some true := by
  simp only [computuslaw23_KindSame.j0]
  rw [if_pos trivial, known_b]
theorem br_eq (s : ByteArray) : (((⟨#[40]⟩ : ByteArray) ++ s) ++ (⟨#[41]⟩ : ByteArray)) = sOpen ++ s ++ sShut := rfl
theorem ca_eq (s nm : ByteArray) : ((((⟨#[40]⟩ : ByteArray) ++ s) ++ (⟨#[41, 58, 58]⟩ : ByteArray)) ++ nm) = castS s nm := by
  unfold castS
  apply ByteArray.ext
  apply Array.toList_inj.mp
  simp [sOpen, sShut, sCol]
theorem same_j2 (k : Nat) (a : Int) (l : Bool) (c : Int × Bool × Int × Int) (h : (l = true ∨ a = 1) ∧ c.2.2.2 = 32 ∨ (l = false ∧ a ≠ 1) ∧ c.2.2.2 = 0 ∧ c.1 = a) : (if l = true then (computuslaw23_KindSame.j2 (k + 1) a c.1 c.2.2.2 true) else (computuslaw23_KindSame.j2 (k + 1) a c.1 c.2.2.2 (a == 1))) = some true := by
  rcases h with ⟨h1, h2⟩ | ⟨⟨h1, h2⟩, h3, h4⟩
  · have e : ∀ x, x = true → computuslaw23_KindSame.j2 (k + 1) a c.1 c.2.2.2 x = some true := fun x hx => by
      subst hx
      simp only [computuslaw23_KindSame.j2]
      rw [if_pos trivial, if_pos h2, known_b]
    cases l with
    | true =>
      rw [if_pos rfl]
      exact e _ rfl
    | false =>
      rw [if_neg (by simp)]
      exact e _ (beq_iff_eq.mpr (by simpa using h1))
  · subst h1
    rw [if_neg (by simp), beq_eq_false_iff_ne.mpr h2]
    simp only [computuslaw23_KindSame.j2]
    rw [if_neg (by simp), if_pos h3, if_pos h4, known_b]
theorem cast_fin (a : Int) (ha : 1 ≤ a ∧ a ≤ 8) : (findF ((⟨#[58, 58]⟩ : ByteArray) ++ nmK a) [a]).2.2 = decide (a ≠ 1) ∧ (a ≠ 1 → (findF ((⟨#[58, 58]⟩ : ByteArray) ++ nmK a) [a]).1 = a ∧ (findF ((⟨#[58, 58]⟩ : ByteArray) ++ nmK a) [a]).2.1 = false) := by
  have hk : a = 1 ∨ a = 2 ∨ a = 3 ∨ a = 4 ∨ a = 5 ∨ a = 6 ∨ a = 7 ∨ a = 8 := by omega
  rcases hk with rfl | rfl | rfl | rfl | rfl | rfl | rfl | rfl <;> decide +kernel
theorem same_main {s : ByteArray} {n : Nd} {pos : Int} (hp : parseS s = some (n, pos, 0)) (hs : s.size ≤ 2018) (k : Nat) (a : Int) (l : Bool) (R : LR) (hR : lookF 2999 n = some R) (hl : R = (if l = true then .many a else .one a)) : computuslaw23_KindSame.j0 (k + 3) s a l false = some true := by
  have hf := (parseS_fine hp).mono (show 2100 ≤ 2999 by decide)
  have hin := look_range 2999 _ n R hf hR
  have ha : 1 ≤ a ∧ a ≤ 8 := by
    rw [hl] at hin
    cases l with
    | true => exact hin
    | false => exact hin
  have ho1 : sOpen.size = 1 := rfl
  simp only [computuslaw23_KindSame.j0]
  rw [if_neg (by simp), if_pos (by omega), if_pos (by rw [ByteArray.size_append]; show 1 + s.size + 1 ≤ _; omega), br_eq]
  obtain ⟨m, pos', why, hb, hc⟩ := brackets_parse hp (by omega)
  rcases hc with ⟨rfl, hst⟩ | rfl
  · have hfm := (parseS_fine hb).mono (show 2100 ≤ 2999 by decide)
    obtain ⟨R', hR'⟩ := look_some 2999 m hfm
    have hlk := look_like 2999 n m R R' hst.symm hR hR'
    have hck : computuslaw23_check.f (sOpen ++ s ++ sShut) = some (a, l, 0, 0) := by
      rw [check_ok hb (look_add 2999 m R' hR' 1)]
      rw [hl] at hlk
      cases l with
      | true =>
        cases R' with
        | many b =>
          have : a = b := hlk
          rw [this]
          rfl
        | one b => exact hlk.elim
        | wrong b => exact hlk.elim
      | false =>
        cases R' with
        | one b =>
          have : a = b := hlk
          rw [this]
          rfl
        | many b => exact hlk.elim
        | wrong b => exact hlk.elim
    rw [hck, Option.bind_some, if_neg (show ¬ (0 : Int) = 31 by decide), if_pos rfl, if_pos rfl]
    rw [show (l != l) = false by simp]
    simp only [computuslaw23_KindSame.j1]
    have hnm := nmK_ok a ha
    have hsz := hnm.size
    rw [if_neg (by simp), if_pos (by omega), if_pos (by rw [ByteArray.size_append]; show 1 + s.size + 3 ≤ _; omega), nmK_f a ha, Option.bind_some, if_pos (by rw [ByteArray.size_append, ByteArray.size_append]; show 1 + s.size + 3 + (nmK a).size ≤ _; omega), ca_eq]
    obtain ⟨n', q, hcp, hn'⟩ := cast_parse hnm hp (by omega) hb
    obtain ⟨R2, hR2⟩ := look_some 2999 n' (by
      have hfc := parseS_fine hcp
      cases hfc with
      | mk D _ _ _ _ hk => exact (hk n' (show n' ∈ [n'] by simp)).mono (by omega))
    have hlk2 := look_like 2999 n n' R R2 hn'.symm hR hR2
    have hcc := check_ok hcp (look_cast (q := q) hsz hR2)
    rw [hcc, Option.bind_some]
    refine same_j2 k a l _ ?_
    rw [hl] at hlk2
    obtain ⟨hf1, hf2⟩ := cast_fin a ha
    cases l with
    | true =>
      cases R2 with
      | many b => exact .inl ⟨.inl rfl, rfl⟩
      | one b => exact hlk2.elim
      | wrong b => exact hlk2.elim
    | false =>
      cases R2 with
      | one b =>
        have hab : a = b := hlk2
        subst hab
        by_cases h1 : a = 1
        · refine .inl ⟨.inr h1, ?_⟩
          have e : castR (nmK a) n' q (.one a) = .wrong q := if_pos (by rw [hf1]; simp [h1])
          rw [e]
          rfl
        · obtain ⟨g1, g2⟩ := hf2 h1
          refine .inr ⟨⟨rfl, h1⟩, ?_⟩
          have e : castR (nmK a) n' q (.one a) = .one (findF ((⟨#[58, 58]⟩ : ByteArray) ++ nmK a) [a]).1 := (if_neg (by rw [hf1]; simp [h1])).trans (if_neg (by rw [g2]; simp))
          rw [e]
          exact ⟨rfl, g1⟩
      | many b => exact hlk2.elim
      | wrong b => exact hlk2.elim
  · rw [check_bad hb (by decide), Option.bind_some, if_pos rfl, known_b]
theorem KindSame : computuslaw23_KindSame.Pure := by
  intro s _
  refine ⟨10, ?_⟩
  obtain ⟨n, pos, why, hp, _⟩ := parseS_good s
  unfold computuslaw23_KindSame.f
  by_cases hw : why = 0
  · subst hw
    obtain ⟨R, hR⟩ := look_some 2999 n ((parseS_fine hp).mono (by decide))
    rw [check_ok hp (look_add 2999 n R hR 1), Option.bind_some]
    cases R with
    | wrong p =>
      show (if (32 : Int) = 0 then _ else _) = _
      rw [if_neg (by decide)]
      exact same_known 9 _ _ _
    | one a =>
      show (if (0 : Int) = 0 then (computuslaw23_KindSame.j0 10 s a false (decide ((s.size : Int) > 2018))) else _) = _
      rw [if_pos rfl]
      by_cases hs : (s.size : Int) > 2018
      · rw [decide_eq_true hs]
        exact same_known 9 _ _ _
      · rw [decide_eq_false hs]
        exact same_main hp (by omega) 7 a false _ hR rfl
    | many a =>
      show (if (0 : Int) = 0 then (computuslaw23_KindSame.j0 10 s a true (decide ((s.size : Int) > 2018))) else _) = _
      rw [if_pos rfl]
      by_cases hs : (s.size : Int) > 2018
      · rw [decide_eq_true hs]
        exact same_known 9 _ _ _
      · rw [decide_eq_false hs]
        exact same_main hp (by omega) 7 a true _ hR rfl
  · rw [check_bad hp hw, Option.bind_some, if_neg hw]
    exact same_known 9 _ _ _
end Go.Proofs.YtfgogfdbjbnlbaaDoor.Pure
end
