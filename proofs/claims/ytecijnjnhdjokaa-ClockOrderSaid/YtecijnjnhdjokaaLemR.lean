/- A time's text is read again. -/
import Derived.Test.YtecijnjnhdjokaaLemT
import Derived.Test.YtecijnjnhdjokaaPClockx4
namespace Go.Proofs.Ytecijnjnhdjokaa.Num
open Go.RowKit Go.Proofs.Ytecijnjnhdjokaa.PClock Go.Proofs.Ytecijnjnhdjokaa.Utf Go.Proofs.YtecijnjnhdjokaaW.PrintWords Go.Proofs.YtecijnjnhdjokaaW.PrintLast Go.Proofs.YtecijnjnhdjokaaW.PrintMore
set_option linter.unusedVariables false
set_option linter.unusedSimpArgs false
/-- The groups of a row of bytes. -/
def grL : List Int → List S45 → ByteArray → Option (List S45 × ByteArray × Bool)
  | [], l, sg => some (l, sg, true)
  | b :: t, l, sg =>
    if (48 ≤ b ∧ b ≤ 57) ∧ (lastG l).f1 < 6 then
      (if 0 ≤ (lastG l).f0 ∧ (lastG l).f0 ≤ 999999 ∧ 0 ≤ (lastG l).f1 then grL t (l.set (l.length - 1) ⟨10 * (lastG l).f0 + (b - 48), (lastG l).f1 + 1⟩) sg else none)
    else if b = 58 ∨ b = 46 then (if l.length < 4000000 ∧ sg.size ≤ 4000000 then grL t (l ++ [⟨0, 0⟩]) (sg ++ strOfNums [b]) else none)
    else some ([], ⟨#[]⟩, false)
theorem gr_run : ∀ (rest pre : List Int) (l : List S45) (sg : ByteArray), Asc (pre ++ rest) → grLoop (strOfNums (pre ++ rest)) (rest.length + 1) l sg pre.length = grL rest l sg := by
  intro rest
  induction rest with
  | nil =>
    intro pre l sg h
    rw [List.length_nil, grLoop, if_neg (by rw [strOfNums_size]; simp)]
    rfl
  | cons b t ih =>
    intro pre l sg h
    have hl : pre.length < (pre ++ b :: t).length := by simp
    have hg : (pre ++ b :: t)[pre.length] = b := by simp
    obtain ⟨hb0, hb1⟩ := h b (by simp)
    obtain ⟨c, rfl⟩ : ∃ c : Nat, b = (c : Int) := ⟨b.toNat, by omega⟩
    have hs : pre.length < (strOfNums (pre ++ (c : Int) :: t)).size := by rw [strOfNums_size]; exact hl
    have hv : (strOfNums (pre ++ (c : Int) :: t))[pre.length].toNat = c := by
      rw [nums_get _ _ hl hs, hg, Int.toNat_natCast, UInt8.toNat_ofNat']
      omega
    have hd : Utf8.decode (strOfNums (pre ++ (c : Int) :: t)) pre.length = (c, 1) := by
      rw [decode_ascii _ _ hs (by omega), hv]
    have he : Utf8.encode (c : Int) = strOfNums [(c : Int)] := by
      rw [enc1 c (by omega)]
      rfl
    have hh := fun l2 sg2 => ih (pre ++ [(c : Int)]) l2 sg2 (by rw [List.append_assoc]; exact h)
    simp only [List.append_assoc, List.length_append, List.singleton_append, List.length_singleton] at hh
    rw [List.length_cons, grLoop, if_pos hs, hd]
    simp only [hh, he]
    rw [grL]
    have c1 : ((48 ≤ (c : Int) ∧ (c : Int) ≤ 57) ∧ (lastG l).f1 < 6) = ((48 ≤ c ∧ c ≤ 57) ∧ (lastG l).f1 < 6) := by
      apply propext
      omega
    have c2 : ((c : Int) = 58 ∨ (c : Int) = 46) = (c = 58 ∨ c = 46) := by
      apply propext
      omega
    simp only [c1, c2]
theorem groups_eq (l : List Int) (h : Asc l) : clock_groups.f (strOfNums l) = grL l [⟨0, 0⟩] ⟨#[]⟩ := by
  have := gr_run l [] [⟨0, 0⟩] ⟨#[]⟩ h
  simp only [List.nil_append, List.length_nil] at this
  unfold clock_groups.f
  rw [strOfNums_size]
  exact this
theorem lastG_app (L : List S45) (g : S45) : lastG (L ++ [g]) = g := by
  unfold lastG rd_T45
  rw [List.length_append, List.length_singleton, show (((L.length + 1 : Nat) : Int) - 1).toNat = L.length by omega, List.getD_eq_getElem?_getD]
  simp
theorem grL_digit (b : Int) (t : List Int) (L : List S45) (n k : Int) (sg : ByteArray) (hb : 48 ≤ b ∧ b ≤ 57) (hk : 0 ≤ k ∧ k < 6) (hn : 0 ≤ n ∧ n ≤ 999999) : grL (b :: t) (L ++ [⟨n, k⟩]) sg = grL t (L ++ [⟨10 * n + (b - 48), k + 1⟩]) sg := by
  rw [grL, lastG_app, if_pos ⟨hb, hk.2⟩, if_pos ⟨hn.1, hn.2, hk.1⟩]
  rw [List.length_append, List.length_singleton, Nat.add_sub_cancel, List.set_append_right _ _ (Nat.le_refl _), Nat.sub_self]
  rfl
theorem grL_sign (b : Int) (t : List Int) (L : List S45) (s : List Int) (hb : b = 58 ∨ b = 46) (hL : L.length < 100) (hs : s.length < 100) : grL (b :: t) L (strOfNums s) = grL t (L ++ [⟨0, 0⟩]) (strOfNums (s ++ [b])) := by
  rw [grL, if_neg (by omega), if_pos hb, if_pos ⟨by omega, by rw [strOfNums_size]; omega⟩, nums_app]
theorem grL_two (x y : Int) (t : List Int) (L : List S45) (sg : ByteArray) (hx : 0 ≤ x ∧ x ≤ 9) (hy : 0 ≤ y ∧ y ≤ 9) : grL ((48 + x) :: (48 + y) :: t) (L ++ [⟨0, 0⟩]) sg = grL t (L ++ [⟨10 * x + y, 2⟩]) sg := by
  rw [grL_digit (48 + x) _ L 0 0 sg (by omega) (by omega) (by omega), grL_digit (48 + y) _ L _ _ sg (by omega) (by omega) (by omega)]
  rw [show 10 * (10 * 0 + (48 + x - 48)) + (48 + y - 48) = 10 * x + y by omega]
  rfl
/-- What a row of digits says. -/
def val : Int → List Int → Int
  | v, [] => v
  | v, b :: t => val (10 * v + (b - 48)) t
theorem val_app : ∀ (a b : List Int) (v : Int), val v (a ++ b) = val (val v a) b := by
  intro a
  induction a with
  | nil => intro b v; rfl
  | cons x t ih => intro b v; exact ih b _
/-- So many noughts behind. -/
def up (v : Int) : Nat → Int
  | 0 => v
  | z + 1 => up (v * 10) z
theorem val_rep : ∀ (z : Nat) (v : Int), val v (List.replicate z 48) = up v z := by
  intro z
  induction z with
  | zero => intro v; rfl
  | succ z ih =>
    intro v
    rw [List.replicate_succ, val, up, ← ih, show 10 * v + (48 - 48) = v * 10 by omega]
def Dig (l : List Int) : Prop := ∀ x ∈ l, 48 ≤ x ∧ x ≤ 57
theorem val_low : ∀ (l : List Int) (v : Int), Dig l → v ≤ val v l ∨ v < 0 := by
  intro l
  induction l with
  | nil => intro v _; exact .inl (Int.le_refl _)
  | cons b t ih =>
    intro v h
    by_cases hv : v < 0
    · exact .inr hv
    have hb := h b (by simp)
    rcases ih (10 * v + (b - 48)) (fun x hx => h x (by simp [hx])) with h1 | h1
    · left
      rw [val]
      omega
    · omega
theorem grL_run : ∀ (ds : List Int) (L : List S45) (n k : Int) (sg : ByteArray), Dig ds → 0 ≤ n → val n ds ≤ 999999 → 0 ≤ k → k + ds.length ≤ 6 → grL ds (L ++ [⟨n, k⟩]) sg = some (L ++ [⟨val n ds, k + ds.length⟩], sg, true) := by
  intro ds
  induction ds with
  | nil =>
    intro L n k sg _ _ _ _ _
    simp [grL, val]
  | cons b t ih =>
    intro L n k sg hd hn hv hk hl
    rw [List.length_cons] at hl
    have hb := hd b (by simp)
    have ht : Dig t := fun x hx => hd x (by simp [hx])
    rw [val] at hv
    have hlow := val_low t (10 * n + (b - 48)) ht
    rw [grL_digit b t L n k sg hb (by omega) (by omega), ih L _ _ sg ht (by omega) hv (by omega) (by omega), val, List.length_cons]
    rw [show k + 1 + (t.length : Int) = k + ((t.length + 1 : Nat) : Int) by omega]
theorem six_val (n : Nat) (h : n < 1000000) : val 0 (sixL n) = n := by
  simp only [sixL, val]
  omega
theorem make_val (h m s us : Int) (h1 : 0 ≤ h ∧ h ≤ 24) (h2 : 0 ≤ m ∧ m ≤ 59) (h3 : 0 ≤ s ∧ s ≤ 59) (h4 : 0 ≤ us ∧ us ≤ 999999) (h5 : h * 3600000000 + m * 60000000 + s * 1000000 + us ≤ 86400000000) : Ev (fun k => clock_Make.f k h m s us) (h * 3600000000 + m * 60000000 + s * 1000000 + us, 0) := by
  refine Ev.congr (f := fun k => clock_Make.j0 k h m s us false) (fun k => ?_) (Ev.step (f := fun _ => some _) (fun k => ?_) (Ev.now _))
  · unfold clock_Make.f
    simp only [within_eq, Option.bind_some, h1, h2, h3, h4, and_self, decide_true, if_true, Bool.not_true]
  · rw [clock_Make.j0, if_neg Bool.false_ne_true]
    rw [w64 (h * 3600000000) (by omega) (by omega), w64 (m * 60000000) (by omega) (by omega), w64 (s * 1000000) (by omega) (by omega)]
    rw [w64 (h * 3600000000 + m * 60000000) (by omega) (by omega), w64 (h * 3600000000 + m * 60000000 + s * 1000000) (by omega) (by omega), w64 (h * 3600000000 + m * 60000000 + s * 1000000 + us) (by omega) (by omega), if_neg (by omega)]
theorem up_low : ∀ (z : Nat) (v : Int), 0 ≤ v → v ≤ up v z := by
  intro z
  induction z with
  | zero => intro v _; exact Int.le_refl _
  | succ z ih =>
    intro v hv
    rw [up]
    have := ih (v * 10) (by omega)
    omega
theorem fill : ∀ (z : Nat) (L : List S45) (h m s x v k : Int), (rd_T45 L 0).f0 = h → (rd_T45 L 1).f0 = m → 1 < L.length → k + z = 6 → 0 ≤ v → up v z ≤ 999999 → 0 ≤ k → (0 ≤ h ∧ h ≤ 24) → (0 ≤ m ∧ m ≤ 59) → (0 ≤ s ∧ s ≤ 59) → h * 3600000000 + m * 60000000 + s * 1000000 + up v z ≤ 86400000000 → Ev (fun n => clock_Read.l0 n L s x v k) (h * 3600000000 + m * 60000000 + s * 1000000 + up v z, 0) := by
  intro z
  induction z with
  | zero =>
    intro L h m s x v k e1 e2 hL hk hv hu hk0 r1 r2 r3 r4
    rw [up] at hu r4 ⊢
    refine Ev.step (f := fun n => (clock_Make.f n h m s v).bind fun b => some (b.1, b.2)) (fun n => ?_) (Ev.bind (make_val h m s v r1 r2 r3 ⟨hv, hu⟩ r4) (Ev.now _))
    rw [clock_Read.l0, if_neg (by omega), if_pos (by omega), if_pos (by omega), e1, e2]
  | succ z ih =>
    intro L h m s x v k e1 e2 hL hk hv hu hk0 r1 r2 r3 r4
    rw [up] at hu r4 ⊢
    have hlow := up_low z (v * 10) (by omega)
    refine Ev.step (fun n => ?_) (ih L h m s x (v * 10) (k + 1) e1 e2 hL (by omega) (by omega) hu (by omega) r1 r2 r3 r4)
    rw [clock_Read.l0, if_pos (by omega), w64 _ (by omega) (by omega), w64 _ (by omega) (by omega)]
end Go.Proofs.Ytecijnjnhdjokaa.Num
