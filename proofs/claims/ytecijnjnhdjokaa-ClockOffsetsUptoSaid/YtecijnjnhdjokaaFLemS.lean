/- A time's text is read again. -/
import Derived.Test.YtecijnjnhdjokaaFLemN
import Derived.Test.YtecijnjnhdjokaaPClockFx2
import Derived.Test.YtecijnjnhdjokaaPClockFx7
namespace Go.Proofs.Ytecijnjnhdjokaa.FNum
open Go.RowKit Go.Proofs.Ytecijnjnhdjokaa.PClockF Go.Proofs.Ytecijnjnhdjokaa.Utf Go.Proofs.YtecijnjnhdjokaaW.PrintWords Go.Proofs.YtecijnjnhdjokaaW.PrintLast Go.Proofs.YtecijnjnhdjokaaW.PrintMore
set_option linter.unusedVariables false
set_option linter.unusedSimpArgs false
/-- The groups of a row of bytes. -/
def grL : List Int → List S45 → ByteArray → Option (List S45 × ByteArray × Bool)
  | [], l, sg => some (l, sg, true)
  | b :: t, l, sg =>
    if (48 ≤ b ∧ b ≤ 57) ∧ (lastG l).f1 < 6 then
      (if 0 ≤ (lastG l).f0 ∧ (lastG l).f0 ≤ 999999 ∧ 0 ≤ (lastG l).f1 then grL t (l.set (l.length - 1) ⟨10 * (lastG l).f0 + (b - 48), (lastG l).f1 + 1⟩) sg else none)
    else if b = 58 ∨ b = 46 then (if l.length < 4000000 ∧ sg.size ≤ 4000000 then grL t (l ++ [⟨0, 0⟩]) (sg ++ strOfNums [b]) else none)
    else some ([], ⟨#[]⟩, false)
theorem gr_run : ∀ (rest pre : List Int) (l : List S45) (sg : ByteArray), Asc (pre ++ rest) → grLoop (strOfNums (pre ++ rest)) (rest.length + 1) l sg pre.length = grL rest l sg := by
  intro rest
  induction rest with
  | nil =>
    intro pre l sg h
    rw [List.length_nil, grLoop, if_neg (by rw [strOfNums_size]; simp)]
    rfl
  | cons b t ih =>
    intro pre l sg h
    have hl : pre.length < (pre ++ b :: t).length := by simp
    have hg : (pre ++ b :: t)[pre.length] = b := by simp
    obtain ⟨hb0, hb1⟩ := h b (by simp)
    obtain ⟨c, rfl⟩ : ∃ c : Nat, b = (c : Int) := ⟨b.toNat, by omega⟩
    have hs : pre.length < (strOfNums (pre ++ (c : Int) :: t)).size := by rw [strOfNums_size]; exact hl
    have hv : (strOfNums (pre ++ (c : Int) :: t))[pre.length].toNat = c := by
      rw [nums_get _ _ hl hs, hg, Int.toNat_natCast, UInt8.toNat_ofNat']
      omega
    have hd : Utf8.decode (strOfNums (pre ++ (c : Int) :: t)) pre.length = (c, 1) := by
      rw [decode_ascii _ _ hs (by omega), hv]
    have he : Utf8.encode (c : Int) = strOfNums [(c : Int)] := by
      rw [enc1 c (by omega)]
      rfl
    have hh := fun l2 sg2 => ih (pre ++ [(c : Int)]) l2 sg2 (by rw [List.append_assoc]; exact h)
    simp only [List.append_assoc, List.length_append, List.singleton_append, List.length_singleton] at hh
    rw [List.length_cons, grLoop, if_pos hs, hd]
    simp only [hh, he]
    rw [grL]
    have c1 : ((48 ≤ (c : Int) ∧ (c : Int) ≤ 57) ∧ (lastG l).f1 < 6) = ((48 ≤ c ∧ c ≤ 57) ∧ (lastG l).f1 < 6) := by
      apply propext
      omega
    have c2 : ((c : Int) = 58 ∨ (c : Int) = 46) = (c = 58 ∨ c = 46) := by
      apply propext
      omega
    simp only [c1, c2]
theorem groups_eq (l : List Int) (h : Asc l) : clock_groups.f (strOfNums l) = grL l [⟨0, 0⟩] ⟨#[]⟩ := by
  have := gr_run l [] [⟨0, 0⟩] ⟨#[]⟩ h
  simp only [List.nil_append, List.length_nil] at this
  unfold clock_groups.f
  rw [strOfNums_size]
  exact this
theorem lastG_app (L : List S45) (g : S45) : lastG (L ++ [g]) = g := by
  unfold lastG rd_T45
  rw [List.length_append, List.length_singleton, show (((L.length + 1 : Nat) : Int) - 1).toNat = L.length by omega, List.getD_eq_getElem?_getD]
  simp
theorem grL_digit (b : Int) (t : List Int) (L : List S45) (n k : Int) (sg : ByteArray) (hb : 48 ≤ b ∧ b ≤ 57) (hk : 0 ≤ k ∧ k < 6) (hn : 0 ≤ n ∧ n ≤ 999999) : grL (b :: t) (L ++ [⟨n, k⟩]) sg = grL t (L ++ [⟨10 * n + (b - 48), k + 1⟩]) sg := by
  rw [grL, lastG_app, if_pos ⟨hb, hk.2⟩, if_pos ⟨hn.1, hn.2, hk.1⟩]
  rw [List.length_append, List.length_singleton, Nat.add_sub_cancel, List.set_append_right _ _ (Nat.le_refl _), Nat.sub_self]
  rfl
theorem grL_sign (b : Int) (t : List Int) (L : List S45) (s : List Int) (hb : b = 58 ∨ b = 46) (hL : L.length < 100) (hs : s.length < 100) : grL (b :: t) L (strOfNums s) = grL t (L ++ [⟨0, 0⟩]) (strOfNums (s ++ [b])) := by
  rw [grL, if_neg (by omega), if_pos hb, if_pos ⟨by omega, by rw [strOfNums_size]; omega⟩, nums_app]
theorem grL_two (x y : Int) (t : List Int) (L : List S45) (sg : ByteArray) (hx : 0 ≤ x ∧ x ≤ 9) (hy : 0 ≤ y ∧ y ≤ 9) : grL ((48 + x) :: (48 + y) :: t) (L ++ [⟨0, 0⟩]) sg = grL t (L ++ [⟨10 * x + y, 2⟩]) sg := by
  rw [grL_digit (48 + x) _ L 0 0 sg (by omega) (by omega) (by omega), grL_digit (48 + y) _ L _ _ sg (by omega) (by omega) (by omega)]
  rw [show 10 * (10 * 0 + (48 + x - 48)) + (48 + y - 48) = 10 * x + y by omega]
  rfl
/-- What a row of digits says. -/
def val : Int → List Int → Int
  | v, [] => v
  | v, b :: t => val (10 * v + (b - 48)) t
theorem val_app : ∀ (a b : List Int) (v : Int), val v (a ++ b) = val (val v a) b := by
  intro a
  induction a with
  | nil => intro b v; rfl
  | cons x t ih => intro b v; exact ih b _
/-- So many noughts behind. -/
def up (v : Int) : Nat → Int
  | 0 => v
  | z + 1 => up (v * 10) z
theorem val_rep : ∀ (z : Nat) (v : Int), val v (List.replicate z 48) = up v z := by
  intro z
  induction z with
  | zero => intro v; rfl
  | succ z ih =>
    intro v
    rw [List.replicate_succ, val, up, ← ih, show 10 * v + (48 - 48) = v * 10 by omega]
def Dig (l : List Int) : Prop := ∀ x ∈ l, 48 ≤ x ∧ x ≤ 57
theorem val_low : ∀ (l : List Int) (v : Int), Dig l → v ≤ val v l ∨ v < 0 := by
  intro l
  induction l with
  | nil => intro v _; exact .inl (Int.le_refl _)
  | cons b t ih =>
    intro v h
    by_cases hv : v < 0
    · exact .inr hv
    have hb := h b (by simp)
    rcases ih (10 * v + (b - 48)) (fun x hx => h x (by simp [hx])) with h1 | h1
    · left
      rw [val]
      omega
    · omega
theorem grL_run : ∀ (ds : List Int) (L : List S45) (n k : Int) (sg : ByteArray), Dig ds → 0 ≤ n → val n ds ≤ 999999 → 0 ≤ k → k + ds.length ≤ 6 → grL ds (L ++ [⟨n, k⟩]) sg = some (L ++ [⟨val n ds, k + ds.length⟩], sg, true) := by
  intro ds
  induction ds with
  | nil =>
    intro L n k sg _ _ _ _ _
    simp [grL, val]
  | cons b t ih =>
    intro L n k sg hd hn hv hk hl
    rw [List.length_cons] at hl
    have hb := hd b (by simp)
    have ht : Dig t := fun x hx => hd x (by simp [hx])
    rw [val] at hv
    have hlow := val_low t (10 * n + (b - 48)) ht
    rw [grL_digit b t L n k sg hb (by omega) (by omega), ih L _ _ sg ht (by omega) hv (by omega) (by omega), val, List.length_cons]
    rw [show k + 1 + (t.length : Int) = k + ((t.length + 1 : Nat) : Int) by omega]
/-- Bytes. -/
def Byt (l : List Int) : Prop := ∀ x ∈ l, 0 ≤ x ∧ x < 256
theorem as_nums (s : ByteArray) : ∃ l, Byt l ∧ s = strOfNums l := by
  refine ⟨s.data.toList.map fun b => (b.toNat : Int), ?_, ?_⟩
  · intro x hx
    obtain ⟨b, _, rfl⟩ := List.mem_map.1 hx
    have := b.toNat_lt
    omega
  · apply ByteArray.ext
    apply Array.toList_inj.1
    rw [strOfNums_data, List.map_map]
    have e : ((fun n : Int => UInt8.ofNat n.toNat) ∘ fun b : UInt8 => (b.toNat : Int)) = id := by
      funext b
      simp
    rw [e, List.map_id]
theorem bt_numsB (l : List Int) (i : Nat) (h : i < l.length) (h0 : 0 ≤ l[i] ∧ l[i] < 256) : bt (strOfNums l) (i : Int) = l[i] := by
  have hs : i < (strOfNums l).size := by rw [strOfNums_size]; exact h
  rw [bt_get _ _ hs, nums_get l i h hs]
  simp only [UInt8.toNat_ofNat']
  omega
theorem gr_runB : ∀ (rest pre : List Int) (l : List S45) (sg : ByteArray), Byt (pre ++ rest) → grLoop (strOfNums (pre ++ rest)) (rest.length + 1) l sg pre.length = grL rest l sg := by
  intro rest
  induction rest with
  | nil =>
    intro pre l sg h
    rw [List.length_nil, grLoop, if_neg (by rw [strOfNums_size]; simp)]
    rfl
  | cons b t ih =>
    intro pre l sg h
    have hl : pre.length < (pre ++ b :: t).length := by simp
    have hg : (pre ++ b :: t)[pre.length] = b := by simp
    obtain ⟨hb0, hb1⟩ := h b (by simp)
    obtain ⟨c, rfl⟩ : ∃ c : Nat, b = (c : Int) := ⟨b.toNat, by omega⟩
    have hs : pre.length < (strOfNums (pre ++ (c : Int) :: t)).size := by rw [strOfNums_size]; exact hl
    have hv : (strOfNums (pre ++ (c : Int) :: t))[pre.length].toNat = c := by
      rw [nums_get _ _ hl hs, hg, Int.toNat_natCast, UInt8.toNat_ofNat']
      omega
    rw [List.length_cons, grLoop, if_pos hs]
    by_cases ha : c < 128
    · have hd : Utf8.decode (strOfNums (pre ++ (c : Int) :: t)) pre.length = (c, 1) := by
        rw [decode_ascii _ _ hs (by omega), hv]
      have he : Utf8.encode (c : Int) = strOfNums [(c : Int)] := by
        rw [enc1 c (by omega)]
        rfl
      have hh := fun l2 sg2 => ih (pre ++ [(c : Int)]) l2 sg2 (by rw [List.append_assoc]; exact h)
      simp only [List.append_assoc, List.length_append, List.singleton_append, List.length_singleton] at hh
      rw [hd]
      simp only [hh, he]
      rw [grL]
      have c1 : ((48 ≤ (c : Int) ∧ (c : Int) ≤ 57) ∧ (lastG l).f1 < 6) = ((48 ≤ c ∧ c ≤ 57) ∧ (lastG l).f1 < 6) := by
        apply propext
        omega
      have c2 : ((c : Int) = 58 ∨ (c : Int) = 46) = (c = 58 ∨ c = 46) := by
        apply propext
        omega
      simp only [c1, c2]
    · have hd := decode_high _ _ hs (by omega)
      rw [grL, if_neg (by omega), if_neg (by omega), if_neg (by omega), if_neg (by omega)]
theorem groups_eqB (l : List Int) (h : Byt l) : clock_groups.f (strOfNums l) = grL l [⟨0, 0⟩] ⟨#[]⟩ := by
  have := gr_runB l [] [⟨0, 0⟩] ⟨#[]⟩ h
  simp only [List.nil_append, List.length_nil] at this
  unfold clock_groups.f
  rw [strOfNums_size]
  exact this
/-- No digit ahead. -/
def NonD (r : List Int) : Prop := ∀ b t, r = b :: t → ¬ (48 ≤ b ∧ b ≤ 57)
theorem runs : ∀ l : List Int, ∃ ds r, l = ds ++ r ∧ Dig ds ∧ NonD r := by
  intro l
  induction l with
  | nil => exact ⟨[], [], rfl, (fun x h => by cases h), (fun b t h => by cases h)⟩
  | cons b t ih =>
    by_cases hb : 48 ≤ b ∧ b ≤ 57
    · obtain ⟨ds, r, e, h1, h2⟩ := ih
      exact ⟨b :: ds, r, by rw [e]; rfl, fun x hx => (List.mem_cons.1 hx).elim (fun e => e ▸ hb) (h1 x), h2⟩
    · exact ⟨[], b :: t, rfl, fun x h => (by cases h), fun b' t' e => by injection e with e1 e2; subst e1; exact hb⟩
def p10 : Nat → Int
  | 0 => 1
  | k + 1 => 10 * p10 k
theorem p10_le (k : Nat) (h : k ≤ 5) : p10 k ≤ 100000 := by
  match k, h with
  | 0, _ => decide
  | 1, _ => decide
  | 2, _ => decide
  | 3, _ => decide
  | 4, _ => decide
  | 5, _ => decide
theorem p10_le6 (k : Nat) (h : k ≤ 6) : p10 k ≤ 1000000 := by
  match k, h with
  | 0, _ => decide
  | 1, _ => decide
  | 2, _ => decide
  | 3, _ => decide
  | 4, _ => decide
  | 5, _ => decide
  | 6, _ => decide
theorem val_rng : ∀ (ds : List Int) (n : Int) (k : Nat), Dig ds → 0 ≤ n → n < p10 k → 0 ≤ val n ds ∧ val n ds < p10 (k + ds.length) := by
  intro ds
  induction ds with
  | nil => intro n k _ h0 h1; exact ⟨h0, h1⟩
  | cons b t ih =>
    intro n k hd h0 h1
    have hb := hd b (by simp)
    have hh := ih (10 * n + (b - 48)) (k + 1) (fun x hx => hd x (by simp [hx])) (by omega) (by rw [p10]; omega)
    rw [val, List.length_cons, show k + (t.length + 1) = k + 1 + t.length by omega]
    exact hh
theorem grL_ds : ∀ (ds r : List Int) (L : List S45) (n : Int) (k : Nat) (sg : ByteArray), Dig ds → 0 ≤ n → n < p10 k → k + ds.length ≤ 6 → grL (ds ++ r) (L ++ [⟨n, k⟩]) sg = grL r (L ++ [⟨val n ds, (k + ds.length : Nat)⟩]) sg := by
  intro ds
  induction ds with
  | nil => intro r L n k sg _ _ _ _; rfl
  | cons b t ih =>
    intro r L n k sg hd h0 h1 hl
    rw [List.length_cons] at hl
    have hb := hd b (by simp)
    have hp := p10_le k (by omega)
    rw [List.cons_append, grL_digit b _ L n k sg hb (by omega) (by omega)]
    have hh := ih r L (10 * n + (b - 48)) (k + 1) sg (fun x hx => hd x (by simp [hx])) (by omega) (by rw [p10]; omega) (by omega)
    rw [show ((k : Int) + 1) = ((k + 1 : Nat) : Int) by omega, hh, val, List.length_cons, show k + (t.length + 1) = k + 1 + t.length by omega]
theorem grL_six (ds r : List Int) (L : List S45) (sg : ByteArray) (hd : Dig ds) (hl : 6 < ds.length) : grL (ds ++ r) (L ++ [⟨0, 0⟩]) sg = some ([], ⟨#[]⟩, false) := by
  have e : ds ++ r = ds.take 6 ++ (ds.drop 6 ++ r) := by rw [← List.append_assoc, List.take_append_drop]
  have h6 : (ds.take 6).length = 6 := by rw [List.length_take]; omega
  have hh := grL_ds (ds.take 6) (ds.drop 6 ++ r) L 0 0 sg (fun x hx => hd x (List.mem_of_mem_take hx)) (by decide) (by decide) (by omega)
  rw [e]
  rw [show ((0 : Int)) = ((0 : Nat) : Int) from rfl] at hh ⊢
  rw [hh, h6]
  obtain ⟨b, t, et⟩ : ∃ b t, ds.drop 6 = b :: t := by
    cases hdr : ds.drop 6 with
    | nil => have := congrArg List.length hdr; rw [List.length_drop, List.length_nil] at this; omega
    | cons b t => exact ⟨b, t, rfl⟩
  have hb := hd b (List.mem_of_mem_drop (by rw [et]; simp))
  rw [et, List.cons_append, grL, lastG_app, if_neg (by simp), if_neg (by omega)]
theorem grL_other (b : Int) (t : List Int) (L : List S45) (sg : ByteArray) (h : ¬ (48 ≤ b ∧ b ≤ 57)) (h1 : b ≠ 58) (h2 : b ≠ 46) : grL (b :: t) L sg = some ([], ⟨#[]⟩, false) := by
  rw [grL, if_neg (fun g => h g.1), if_neg (by omega)]
/-- Whatever comes: an answer, and what stood already still stands. -/
theorem grL_all : ∀ (l : List Int) (L : List S45) (s : List Int), L ≠ [] → 0 ≤ (lastG L).f1 → (lastG L).f1 ≤ 6 → 0 ≤ (lastG L).f0 → (lastG L).f0 < p10 (lastG L).f1.toNat → L.length + l.length ≤ 2000000 → s.length + l.length ≤ 2000000 →
    ∃ L' s' ok, grL l L (strOfNums s) = some (L', strOfNums s', ok) ∧ (ok = true → ∃ m, s' = s ++ m ∧ L'.length = L.length + m.length ∧ ∀ i, i + 1 < L.length → L'[i]? = L[i]?) := by
  intro l
  induction l with
  | nil => intro L s _ _ _ _ _ _ _; exact ⟨L, s, true, rfl, fun _ => ⟨[], by simp, by simp, fun _ _ => rfl⟩⟩
  | cons b t ih =>
    intro L s hL h1 h2 h3 h4 h5 h6
    rw [List.length_cons] at h5 h6
    rw [grL]
    by_cases hd : (48 ≤ b ∧ b ≤ 57) ∧ (lastG L).f1 < 6
    · have hp := p10_le (lastG L).f1.toNat (by omega)
      rw [if_pos hd, if_pos (by omega)]
      obtain ⟨j, hj⟩ : ∃ j, L.length = j + 1 := ⟨L.length - 1, by have := List.length_pos_iff.2 hL; omega⟩
      have hset : lastG (L.set (L.length - 1) ⟨10 * (lastG L).f0 + (b - 48), (lastG L).f1 + 1⟩) = ⟨10 * (lastG L).f0 + (b - 48), (lastG L).f1 + 1⟩ := by
        unfold lastG rd_T45
        rw [List.length_set, hj, show (((j + 1 : Nat) : Int) - 1).toNat = j by omega, Nat.add_sub_cancel, List.getD_eq_getElem?_getD, List.getElem?_set_self (by omega)]
        rfl
      obtain ⟨L', s', ok, e, g⟩ := ih (L.set (L.length - 1) ⟨10 * (lastG L).f0 + (b - 48), (lastG L).f1 + 1⟩) s (by intro h; have := congrArg List.length h; rw [List.length_set, List.length_nil] at this; omega)
        (by rw [hset]; show 0 ≤ (lastG L).f1 + 1; omega) (by rw [hset]; show (lastG L).f1 + 1 ≤ 6; omega) (by rw [hset]; show 0 ≤ 10 * (lastG L).f0 + (b - 48); omega)
        (by rw [hset]; show 10 * (lastG L).f0 + (b - 48) < p10 ((lastG L).f1 + 1).toNat; rw [show ((lastG L).f1 + 1).toNat = (lastG L).f1.toNat + 1 by omega, p10]; omega) (by rw [List.length_set]; omega) (by omega)
      refine ⟨L', s', ok, e, fun hok => ?_⟩
      obtain ⟨m, g1, g2, g3⟩ := g hok
      refine ⟨m, g1, by rw [g2, List.length_set], fun i hi => ?_⟩
      rw [g3 i (by rw [List.length_set]; exact hi), List.getElem?_set_ne (by omega)]
    · rw [if_neg hd]
      by_cases hs : b = 58 ∨ b = 46
      · rw [if_pos hs, if_pos ⟨by omega, by rw [strOfNums_size]; omega⟩, ← nums_app]
        have hlast := lastG_app L ⟨0, 0⟩
        obtain ⟨L', s', ok, e, g⟩ := ih (L ++ [⟨0, 0⟩]) (s ++ [b]) (by simp) (by rw [hlast]; decide) (by rw [hlast]; decide) (by rw [hlast]; decide) (by rw [hlast]; decide) (by simp; omega) (by simp; omega)
        refine ⟨L', s', ok, e, fun hok => ?_⟩
        obtain ⟨m, g1, g2, g3⟩ := g hok
        refine ⟨b :: m, by rw [g1]; simp, by rw [g2]; simp; omega, fun i hi => ?_⟩
        rw [g3 i (by simp; omega), List.getElem?_append_left (by omega)]
      · rw [if_neg hs]
        exact ⟨[], [], false, rfl, fun h => by cases h⟩
/-! The reference's own. -/
theorem num_run (least m : Int) (bad : Bool) (hm : m ≤ 6) : ∀ (ds r pre : List Int) (n : Int), Byt (pre ++ (ds ++ r)) → Dig ds → 0 ≤ n → n < p10 pre.length → (pre.length : Int) + ds.length ≤ m → ((pre.length : Int) + ds.length = m ∨ NonD r) → (pre ++ (ds ++ r)).length ≤ 2000000 →
    Ev (fun k => computusref03_scan_num.l0 k least m n (pre.length : Int) (strOfNums (pre ++ (ds ++ r))) bad) (val n ds, strOfNums r, bad || decide ((pre.length : Int) + ds.length < least)) := by
  intro ds
  induction ds with
  | nil =>
    intro r pre n hB _ h0 h1 hl hr hz
    rw [List.nil_append] at hB hz ⊢
    have hsz : (strOfNums (pre ++ r)).size = pre.length + r.length := by rw [strOfNums_size, List.length_append]
    have hdrop : (strOfNums (pre ++ r)).extract pre.length (strOfNums (pre ++ r)).size = strOfNums r := by rw [nums_drop, List.drop_left]
    have hfin : (if (pre.length : Int) < least then (some (n, (strOfNums (pre ++ r)).extract ((pre.length : Int)).toNat (strOfNums (pre ++ r)).size, true)) else (some (n, (strOfNums (pre ++ r)).extract ((pre.length : Int)).toNat (strOfNums (pre ++ r)).size, bad))) = some (val n [], strOfNums r, bad || decide ((pre.length : Int) + ([] : List Int).length < least)) := by
      rw [Int.toNat_natCast, hdrop]
      by_cases hc : (pre.length : Int) < least
      · rw [if_pos hc, decide_eq_true (by simpa using hc), Bool.or_true]
        rfl
      · rw [if_neg hc, decide_eq_false (by simpa using hc), Bool.or_false]
        rfl
    refine Ev.step (f := fun _ => some (val n [], strOfNums r, bad || decide ((pre.length : Int) + ([] : List Int).length < least))) (fun k => ?_) (Ev.now _)
    rw [← hfin, computusref03_scan_num.l0]
    have c1 : 0 ≤ (pre.length : Int) := by omega
    have c2 : (pre.length : Int) ≤ ((strOfNums (pre ++ r)).size : Int) := by rw [hsz]; omega
    simp only [c1, c2, if_true]
    by_cases hjm : (pre.length : Int) < m
    · rw [if_pos hjm]
      have hnd : NonD r := hr.elim (fun e => by simp at e; omega) id
      cases r with
      | nil =>
        rw [if_neg (by rw [hsz]; simp)]
      | cons b t =>
        have hb : bt (strOfNums (pre ++ b :: t)) (pre.length : Int) = b := by
          rw [bt_numsB _ _ (by simp) (by rw [show (pre ++ b :: t)[pre.length]'(by simp) = b by simp]; exact hB b (by simp))]
          simp
        have hn := hnd b t rfl
        rw [if_pos (by rw [hsz]; simp; omega), hb]
        by_cases h48 : b ≥ 48
        · rw [if_pos h48, if_neg (by omega)]
        · rw [if_neg h48]
    · rw [if_neg hjm]
  | cons b t ih =>
    intro r pre n hB hd h0 h1 hl hr hz
    rw [List.length_cons] at hl hr
    have hb := hd b (by simp)
    have hp := p10_le pre.length (by omega)
    have hsz : (strOfNums (pre ++ (b :: t ++ r))).size = pre.length + (t.length + 1 + r.length) := by rw [strOfNums_size]; simp; omega
    have hbt : bt (strOfNums (pre ++ (b :: t ++ r))) (pre.length : Int) = b := by
      rw [bt_numsB _ _ (by simp) (by rw [show (pre ++ (b :: t ++ r))[pre.length]'(by simp) = b by simp]; omega)]
      simp
    have hh := ih r (pre ++ [b]) (10 * n + (b - 48)) (by simpa using hB) (fun x hx => hd x (by simp [hx])) (by omega) (by rw [List.length_append, List.length_singleton, p10]; omega) (by simp; omega) (by
      rcases hr with e | e
      · exact .inl (by simp; omega)
      · exact .inr e) (by simpa using hz)
    have e1 : pre ++ [b] ++ (t ++ r) = pre ++ (b :: t ++ r) := by simp
    have e2 : (((pre ++ [b]).length : Nat) : Int) = (pre.length : Int) + 1 := by simp
    rw [e1, e2] at hh
    rw [val, List.length_cons, show (pre.length : Int) + ((t.length + 1 : Nat) : Int) = (pre.length : Int) + 1 + t.length by omega]
    refine Ev.step (fun k => ?_) hh
    rw [computusref03_scan_num.l0, if_pos (by omega), if_pos (by rw [hsz]; omega), if_pos (by omega), hbt, if_pos (by omega), if_pos hb.2]
    rw [show (b - 48) % 256 = b - 48 by omega, w64 (10 * n) (by omega) (by omega), w64 _ (by omega) (by omega), w64 _ (by omega) (by omega)]
theorem num_ev (least m : Int) (bad : Bool) (hm : m ≤ 6) (ds r : List Int) (hB : Byt (ds ++ r)) (hd : Dig ds) (hl : (ds.length : Int) ≤ m) (hr : (ds.length : Int) = m ∨ NonD r) (hz : (ds ++ r).length ≤ 2000000) :
    Ev (fun k => computusref03_scan_num.f k (strOfNums (ds ++ r)) bad least m) (val 0 ds, strOfNums r, bad || decide ((ds.length : Int) < least)) := by
  have h := num_run least m bad hm ds r [] 0 hB hd (by decide) (by decide) (by simpa using hl) (by simpa using hr) (by simpa using hz)
  simp only [List.nil_append, List.length_nil, Int.natCast_zero, Int.zero_add] at h
  exact h
theorem sign_yes (c : Int) (t : List Int) (bad : Bool) (hc : 0 ≤ c ∧ c < 256) : computusref03_scan_sign.f (strOfNums (c :: t)) bad c = some (true, strOfNums t, bad) := by
  have hs : (strOfNums (c :: t)).size = t.length + 1 := by rw [strOfNums_size, List.length_cons]
  have hb : bt (strOfNums (c :: t)) 0 = c := bt_numsB (c :: t) 0 (by simp) hc
  unfold computusref03_scan_sign.f
  rw [if_neg (by omega), if_pos (by omega), hb, if_pos rfl, if_pos (by omega), nums_drop]
  rfl
theorem sign_no (c : Int) (r : List Int) (bad : Bool) (hB : Byt r) (h : ∀ t, r ≠ c :: t) : computusref03_scan_sign.f (strOfNums r) bad c = some (false, strOfNums r, bad) := by
  unfold computusref03_scan_sign.f
  cases r with
  | nil => rw [if_pos (by rw [strOfNums_size]; rfl)]
  | cons b t =>
    have hs : (strOfNums (b :: t)).size = t.length + 1 := by rw [strOfNums_size, List.length_cons]
    have hb : bt (strOfNums (b :: t)) 0 = b := bt_numsB (b :: t) 0 (by simp) (hB b (by simp))
    rw [if_neg (by omega), if_pos (by omega), hb, if_neg (fun e => h t (by rw [e]))]
end Go.Proofs.Ytecijnjnhdjokaa.FNum
