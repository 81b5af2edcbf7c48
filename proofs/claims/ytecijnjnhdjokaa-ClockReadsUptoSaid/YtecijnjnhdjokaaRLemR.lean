/- A time's text is read again. -/
import Derived.Test.YtecijnjnhdjokaaRLemM
import Derived.Test.YtecijnjnhdjokaaPClockRx3
namespace Go.Proofs.Ytecijnjnhdjokaa.RNum
open Go.RowKit Go.Proofs.Ytecijnjnhdjokaa.PClockR Go.Proofs.Ytecijnjnhdjokaa.Utf Go.Proofs.YtecijnjnhdjokaaW.PrintWords Go.Proofs.YtecijnjnhdjokaaW.PrintLast Go.Proofs.YtecijnjnhdjokaaW.PrintMore
set_option linter.unusedVariables false
set_option linter.unusedSimpArgs false
/-- The groups of a row of bytes. -/
def grL : List Int → List S45 → ByteArray → Option (List S45 × ByteArray × Bool)
  | [], l, sg => some (l, sg, true)
  | b :: t, l, sg =>
    if (48 ≤ b ∧ b ≤ 57) ∧ (lastG l).f1 < 6 then
      (if 0 ≤ (lastG l).f0 ∧ (lastG l).f0 ≤ 999999 ∧ 0 ≤ (lastG l).f1 then grL t (l.set (l.length - 1) ⟨10 * (lastG l).f0 + (b - 48), (lastG l).f1 + 1⟩) sg else none)
    else if b = 58 ∨ b = 46 then (if l.length < 4000000 ∧ sg.size ≤ 4000000 then grL t (l ++ [⟨0, 0⟩]) (sg ++ strOfNums [b]) else none)
    else some ([], ⟨#[]⟩, false)
theorem gr_run : ∀ (rest pre : List Int) (l : List S45) (sg : ByteArray), Asc (pre ++ rest) → grLoop (strOfNums (pre ++ rest)) (rest.length + 1) l sg pre.length = grL rest l sg := by
  intro rest
  induction rest with
  | nil =>
    intro pre l sg h
    rw [List.length_nil, grLoop, if_neg (by rw [strOfNums_size]; simp)]
    rfl
  | cons b t ih =>
    intro pre l sg h
    have hl : pre.length < (pre ++ b :: t).length := by simp
    have hg : (pre ++ b :: t)[pre.length] = b := by simp
    obtain ⟨hb0, hb1⟩ := h b (by simp)
    obtain ⟨c, rfl⟩ : ∃ c : Nat, b = (c : Int) := ⟨b.toNat, by omega⟩
    have hs : pre.length < (strOfNums (pre ++ (c : Int) :: t)).size := by rw [strOfNums_size]; exact hl
    have hv : (strOfNums (pre ++ (c : Int) :: t))[pre.length].toNat = c := by
      rw [nums_get _ _ hl hs, hg, Int.toNat_natCast, UInt8.toNat_ofNat']
      omega
    have hd : Utf8.decode (strOfNums (pre ++ (c : Int) :: t)) pre.length = (c, 1) := by
      rw [decode_ascii _ _ hs (by omega), hv]
    have he : Utf8.encode (c : Int) = strOfNums [(c : Int)] := by
      rw [enc1 c (by omega)]
      rfl
    have hh := fun l2 sg2 => ih (pre ++ [(c : Int)]) l2 sg2 (by rw [List.append_assoc]; exact h)
    simp only [List.append_assoc, List.length_append, List.singleton_append, List.length_singleton] at hh
    rw [List.length_cons, grLoop, if_pos hs, hd]
    simp only [hh, he]
    rw [grL]
    have c1 : ((48 ≤ (c : Int) ∧ (c : Int) ≤ 57) ∧ (lastG l).f1 < 6) = ((48 ≤ c ∧ c ≤ 57) ∧ (lastG l).f1 < 6) := by
      apply propext
      omega
    have c2 : ((c : Int) = 58 ∨ (c : Int) = 46) = (c = 58 ∨ c = 46) := by
      apply propext
      omega
    simp only [c1, c2]
theorem groups_eq (l : List Int) (h : Asc l) : clock_groups.f (strOfNums l) = grL l [⟨0, 0⟩] ⟨#[]⟩ := by
  have := gr_run l [] [⟨0, 0⟩] ⟨#[]⟩ h
  simp only [List.nil_append, List.length_nil] at this
  unfold clock_groups.f
  rw [strOfNums_size]
  exact this
theorem lastG_app (L : List S45) (g : S45) : lastG (L ++ [g]) = g := by
  unfold lastG rd_T45
  rw [List.length_append, List.length_singleton, show (((L.length + 1 : Nat) : Int) - 1).toNat = L.length by omega, List.getD_eq_getElem?_getD]
  simp
theorem grL_digit (b : Int) (t : List Int) (L : List S45) (n k : Int) (sg : ByteArray) (hb : 48 ≤ b ∧ b ≤ 57) (hk : 0 ≤ k ∧ k < 6) (hn : 0 ≤ n ∧ n ≤ 999999) : grL (b :: t) (L ++ [⟨n, k⟩]) sg = grL t (L ++ [⟨10 * n + (b - 48), k + 1⟩]) sg := by
  rw [grL, lastG_app, if_pos ⟨hb, hk.2⟩, if_pos ⟨hn.1, hn.2, hk.1⟩]
  rw [List.length_append, List.length_singleton, Nat.add_sub_cancel, List.set_append_right _ _ (Nat.le_refl _), Nat.sub_self]
  rfl
theorem grL_sign (b : Int) (t : List Int) (L : List S45) (s : List Int) (hb : b = 58 ∨ b = 46) (hL : L.length < 100) (hs : s.length < 100) : grL (b :: t) L (strOfNums s) = grL t (L ++ [⟨0, 0⟩]) (strOfNums (s ++ [b])) := by
  rw [grL, if_neg (by omega), if_pos hb, if_pos ⟨by omega, by rw [strOfNums_size]; omega⟩, nums_app]
theorem grL_two (x y : Int) (t : List Int) (L : List S45) (sg : ByteArray) (hx : 0 ≤ x ∧ x ≤ 9) (hy : 0 ≤ y ∧ y ≤ 9) : grL ((48 + x) :: (48 + y) :: t) (L ++ [⟨0, 0⟩]) sg = grL t (L ++ [⟨10 * x + y, 2⟩]) sg := by
  rw [grL_digit (48 + x) _ L 0 0 sg (by omega) (by omega) (by omega), grL_digit (48 + y) _ L _ _ sg (by omega) (by omega) (by omega)]
  rw [show 10 * (10 * 0 + (48 + x - 48)) + (48 + y - 48) = 10 * x + y by omega]
  rfl
/-- What a row of digits says. -/
def val : Int → List Int → Int
  | v, [] => v
  | v, b :: t => val (10 * v + (b - 48)) t
theorem val_app : ∀ (a b : List Int) (v : Int), val v (a ++ b) = val (val v a) b := by
  intro a
  induction a with
  | nil => intro b v; rfl
  | cons x t ih => intro b v; exact ih b _
/-- So many noughts behind. -/
def up (v : Int) : Nat → Int
  | 0 => v
  | z + 1 => up (v * 10) z
theorem val_rep : ∀ (z : Nat) (v : Int), val v (List.replicate z 48) = up v z := by
  intro z
  induction z with
  | zero => intro v; rfl
  | succ z ih =>
    intro v
    rw [List.replicate_succ, val, up, ← ih, show 10 * v + (48 - 48) = v * 10 by omega]
def Dig (l : List Int) : Prop := ∀ x ∈ l, 48 ≤ x ∧ x ≤ 57
theorem val_low : ∀ (l : List Int) (v : Int), Dig l → v ≤ val v l ∨ v < 0 := by
  intro l
  induction l with
  | nil => intro v _; exact .inl (Int.le_refl _)
  | cons b t ih =>
    intro v h
    by_cases hv : v < 0
    · exact .inr hv
    have hb := h b (by simp)
    rcases ih (10 * v + (b - 48)) (fun x hx => h x (by simp [hx])) with h1 | h1
    · left
      rw [val]
      omega
    · omega
theorem grL_run : ∀ (ds : List Int) (L : List S45) (n k : Int) (sg : ByteArray), Dig ds → 0 ≤ n → val n ds ≤ 999999 → 0 ≤ k → k + ds.length ≤ 6 → grL ds (L ++ [⟨n, k⟩]) sg = some (L ++ [⟨val n ds, k + ds.length⟩], sg, true) := by
  intro ds
  induction ds with
  | nil =>
    intro L n k sg _ _ _ _ _
    simp [grL, val]
  | cons b t ih =>
    intro L n k sg hd hn hv hk hl
    rw [List.length_cons] at hl
    have hb := hd b (by simp)
    have ht : Dig t := fun x hx => hd x (by simp [hx])
    rw [val] at hv
    have hlow := val_low t (10 * n + (b - 48)) ht
    rw [grL_digit b t L n k sg hb (by omega) (by omega), ih L _ _ sg ht (by omega) hv (by omega) (by omega), val, List.length_cons]
    rw [show k + 1 + (t.length : Int) = k + ((t.length + 1 : Nat) : Int) by omega]
theorem six_val (n : Nat) (h : n < 1000000) : val 0 (sixL n) = n := by
  simp only [sixL, val]
  omega
theorem make_val (h m s us : Int) (h1 : 0 ≤ h ∧ h ≤ 24) (h2 : 0 ≤ m ∧ m ≤ 59) (h3 : 0 ≤ s ∧ s ≤ 59) (h4 : 0 ≤ us ∧ us ≤ 999999) (h5 : h * 3600000000 + m * 60000000 + s * 1000000 + us ≤ 86400000000) : Ev (fun k => clock_Make.f k h m s us) (h * 3600000000 + m * 60000000 + s * 1000000 + us, 0) := by
  refine Ev.congr (f := fun k => clock_Make.j0 k h m s us false) (fun k => ?_) (Ev.step (f := fun _ => some _) (fun k => ?_) (Ev.now _))
  · unfold clock_Make.f
    simp only [within_eq, Option.bind_some, h1, h2, h3, h4, and_self, decide_true, if_true, Bool.not_true]
  · rw [clock_Make.j0, if_neg Bool.false_ne_true]
    rw [w64 (h * 3600000000) (by omega) (by omega), w64 (m * 60000000) (by omega) (by omega), w64 (s * 1000000) (by omega) (by omega)]
    rw [w64 (h * 3600000000 + m * 60000000) (by omega) (by omega), w64 (h * 3600000000 + m * 60000000 + s * 1000000) (by omega) (by omega), w64 (h * 3600000000 + m * 60000000 + s * 1000000 + us) (by omega) (by omega), if_neg (by omega)]
theorem up_low : ∀ (z : Nat) (v : Int), 0 ≤ v → v ≤ up v z := by
  intro z
  induction z with
  | zero => intro v _; exact Int.le_refl _
  | succ z ih =>
    intro v hv
    rw [up]
    have := ih (v * 10) (by omega)
    omega
theorem fill : ∀ (z : Nat) (L : List S45) (h m s x v k : Int), (rd_T45 L 0).f0 = h → (rd_T45 L 1).f0 = m → 1 < L.length → k + z = 6 → 0 ≤ v → up v z ≤ 999999 → 0 ≤ k → (0 ≤ h ∧ h ≤ 24) → (0 ≤ m ∧ m ≤ 59) → (0 ≤ s ∧ s ≤ 59) → h * 3600000000 + m * 60000000 + s * 1000000 + up v z ≤ 86400000000 → Ev (fun n => clock_Read.l0 n L s x v k) (h * 3600000000 + m * 60000000 + s * 1000000 + up v z, 0) := by
  intro z
  induction z with
  | zero =>
    intro L h m s x v k e1 e2 hL hk hv hu hk0 r1 r2 r3 r4
    rw [up] at hu r4 ⊢
    refine Ev.step (f := fun n => (clock_Make.f n h m s v).bind fun b => some (b.1, b.2)) (fun n => ?_) (Ev.bind (make_val h m s v r1 r2 r3 ⟨hv, hu⟩ r4) (Ev.now _))
    rw [clock_Read.l0, if_neg (by omega), if_pos (by omega), if_pos (by omega), e1, e2]
  | succ z ih =>
    intro L h m s x v k e1 e2 hL hk hv hu hk0 r1 r2 r3 r4
    rw [up] at hu r4 ⊢
    have hlow := up_low z (v * 10) (by omega)
    refine Ev.step (fun n => ?_) (ih L h m s x (v * 10) (k + 1) e1 e2 hL (by omega) (by omega) hu (by omega) r1 r2 r3 r4)
    rw [clock_Read.l0, if_pos (by omega), w64 _ (by omega) (by omega), w64 _ (by omega) (by omega)]
theorem text_in (t : Int) (h : 0 ≤ t ∧ t ≤ 86400000000) (r : ByteArray) (hr : clock_text.f t = some r) : clock_Text.f t = some (r, 0) := by
  unfold clock_Text.f
  rw [within_eq, Option.bind_some, decide_eq_true h, if_pos rfl, u64i t h.1 (by omega), hr, Option.bind_some]
theorem t1 : (strOfNums [58, 58]).toList ≠ ([58] : List UInt8) := by decide +kernel
theorem t2 : (strOfNums [58, 58]).toList = ([58, 58] : List UInt8) := by decide +kernel
theorem t3 : (strOfNums [58, 58, 46]).toList ≠ ([58] : List UInt8) := by decide +kernel
theorem t4 : (strOfNums [58, 58, 46]).toList ≠ ([58, 58] : List UInt8) := by decide +kernel
theorem t5 : (strOfNums [58, 58, 46]).toList = ([58, 58, 46] : List UInt8) := by decide +kernel
theorem two_true (n : Int) : clock_group_two.f n 2 = some true := rfl
theorem one_true (n : Int) : clock_group_one.f n 2 = some true := by unfold clock_group_one.f; rw [if_neg (by decide)]; rfl
/-- The reading of three groups. -/
theorem read3 (x : ByteArray) (h m s : Int) (hx : clock_groups.f x = some ([⟨h, 2⟩, ⟨m, 2⟩, ⟨s, 2⟩], strOfNums [58, 58], true)) (r1 : 0 ≤ h ∧ h ≤ 24) (r2 : 0 ≤ m ∧ m ≤ 59) (r3 : 0 ≤ s ∧ s ≤ 59) (r4 : h * 3600000000 + m * 60000000 + s * 1000000 + 0 ≤ 86400000000) : Ev (fun k => clock_Read.f k x) (h * 3600000000 + m * 60000000 + s * 1000000 + 0, 0) := by
  have hf := fill 0 [⟨h, 2⟩, ⟨m, 2⟩, ⟨s, 2⟩, ⟨0, 2⟩, ⟨0, 6⟩] h m s 2 0 6 rfl rfl (by simp) (by decide) (by decide) (by decide) (by decide) r1 r2 r3 r4
  refine Ev.congr (f := fun k => clock_Read.j0 k [⟨h, 2⟩, ⟨m, 2⟩, ⟨s, 2⟩] (strOfNums [58, 58]) false) (fun k => ?_) ?_
  · unfold clock_Read.f
    rw [hx, Option.bind_some]
    simp only [if_true]
    rw [if_neg t1, if_pos t2, if_pos (by simp)]
    simp only [rd_T45, Int.toNat_zero, List.getD_cons_zero, one_true, Option.bind_some, if_true]
    rw [if_pos (by simp)]
    simp only [show (1 : Int).toNat = 1 from rfl, List.getD_cons_succ, List.getD_cons_zero, two_true, Option.bind_some, Bool.not_true]
  · refine Ev.step (f := fun k => clock_Read.j1 k [⟨h, 2⟩, ⟨m, 2⟩, ⟨s, 2⟩, ⟨0, 2⟩, ⟨0, 6⟩] s 2 0 6) (fun k => ?_) ?_
    · rw [clock_Read.j0, if_neg Bool.false_ne_true, Option.bind_some, if_pos (by simp), Option.bind_some]
      rw [if_pos (by simp), if_pos (by simp), if_neg t1, if_pos t2]
      rfl
    · refine Ev.step (f := fun k => clock_Read.j2 k [⟨h, 2⟩, ⟨m, 2⟩, ⟨s, 2⟩, ⟨0, 2⟩, ⟨0, 6⟩] false s 2 0 6) (fun k => ?_) ?_
      · rw [clock_Read.j1, two_true, Option.bind_some, if_pos rfl]
        rfl
      · refine Ev.step (fun k => ?_) hf
        rw [clock_Read.j2, if_neg Bool.false_ne_true]
/-- The reading of four. -/
theorem read4 (x : ByteArray) (h m s v : Int) (z e : Nat) (hx : clock_groups.f x = some ([⟨h, 2⟩, ⟨m, 2⟩, ⟨s, 2⟩, ⟨v, e⟩], strOfNums [58, 58, 46], true)) (he : 0 < e) (hz : e + z = 6) (hv : 0 ≤ v) (hu : up v z ≤ 999999) (r1 : 0 ≤ h ∧ h ≤ 24) (r2 : 0 ≤ m ∧ m ≤ 59) (r3 : 0 ≤ s ∧ s ≤ 59) (r4 : h * 3600000000 + m * 60000000 + s * 1000000 + up v z ≤ 86400000000) : Ev (fun k => clock_Read.f k x) (h * 3600000000 + m * 60000000 + s * 1000000 + up v z, 0) := by
  have hf := fill z [⟨h, 2⟩, ⟨m, 2⟩, ⟨s, 2⟩, ⟨v, e⟩, ⟨0, 2⟩, ⟨0, 6⟩] h m s 2 v e rfl rfl (by simp) (by omega) hv hu (by omega) r1 r2 r3 r4
  refine Ev.congr (f := fun k => clock_Read.j0 k [⟨h, 2⟩, ⟨m, 2⟩, ⟨s, 2⟩, ⟨v, e⟩] (strOfNums [58, 58, 46]) false) (fun k => ?_) ?_
  · unfold clock_Read.f
    rw [hx, Option.bind_some]
    simp only [if_true]
    rw [if_neg t3, if_neg t4, if_pos t5, if_pos (by simp)]
    simp only [rd_T45, Int.toNat_zero, List.getD_cons_zero, one_true, Option.bind_some, if_true]
    rw [if_pos (by simp)]
    simp only [show (1 : Int).toNat = 1 from rfl, List.getD_cons_succ, List.getD_cons_zero, two_true, Option.bind_some, Bool.not_true]
  · refine Ev.step (f := fun k => clock_Read.j1 k [⟨h, 2⟩, ⟨m, 2⟩, ⟨s, 2⟩, ⟨v, e⟩, ⟨0, 2⟩, ⟨0, 6⟩] s 2 v e) (fun k => ?_) ?_
    · rw [clock_Read.j0, if_neg Bool.false_ne_true, Option.bind_some, if_pos (by simp), Option.bind_some]
      rw [if_pos (by simp), if_pos (by simp), if_neg t3, if_neg t4]
      rfl
    · refine Ev.step (f := fun k => clock_Read.j2 k [⟨h, 2⟩, ⟨m, 2⟩, ⟨s, 2⟩, ⟨v, e⟩, ⟨0, 2⟩, ⟨0, 6⟩] false s 2 v e) (fun k => ?_) ?_
      · rw [clock_Read.j1, two_true, Option.bind_some, if_pos rfl]
        rw [show ((e : Int) == 0) = false by simp; omega]
      · refine Ev.step (fun k => ?_) hf
        rw [clock_Read.j2, if_neg Bool.false_ne_true]
theorem asc_two (n : Nat) : Asc (decL 20 n 2 []) := dec_asc 20 n 2 [] Asc.nil
/-- A time's own text is read again as it was. -/
theorem read_text (t : Int) (h0 : 0 ≤ t) (h1 : t ≤ 86400000000) (r : ByteArray) (hr : clock_text.f t = some r) : Ev (fun k => clock_Read.f k r) (t, 0) := by
  obtain ⟨l, h2, h3, h4, h5⟩ := text_some t h0 (by omega)
  obtain rfl := Option.some.inj (hr.symm.trans h2)
  have hsum : t / 3600000000 * 3600000000 + t / 60000000 % 60 * 60000000 + t / 1000000 % 60 * 1000000 + t % 1000000 = t := by omega
  have q1 : 0 ≤ t / 3600000000 ∧ t / 3600000000 ≤ 24 := by omega
  have q2 : 0 ≤ t / 60000000 % 60 ∧ t / 60000000 % 60 ≤ 59 := by omega
  have q3 : 0 ≤ t / 1000000 % 60 ∧ t / 1000000 % 60 ≤ 59 := by omega
  have q4 : 0 ≤ t % 1000000 ∧ t % 1000000 ≤ 999999 := by omega
  clear hr h2
  have hasc : Asc (decL 20 (t / 3600000000).toNat 2 [] ++ [58] ++ decL 20 (t / 60000000 % 60).toNat 2 [] ++ [58] ++ decL 20 (t / 1000000 % 60).toNat 2 [] ++ l) :=
    ((((asc_two _).app (Asc.cons (by decide) Asc.nil)).app (asc_two _)).app (Asc.cons (by decide) Asc.nil)).app (asc_two _) |>.app h4
  have hgr := groups_eq _ hasc
  generalize t / 3600000000 = h at *
  generalize t / 60000000 % 60 = m at *
  generalize t / 1000000 % 60 = s at *
  generalize t % 1000000 = u at *
  have d2 : ∀ n : Int, 0 ≤ n → n < 100 → decL 20 n.toNat 2 [] = [48 + n / 10 % 10, 48 + n % 10] := by
    intro n g0 g1
    rw [two_digits _ (by omega)]
    obtain ⟨k, rfl⟩ : ∃ k : Nat, n = (k : Int) := ⟨n.toNat, by omega⟩
    rw [Int.toNat_natCast, Int.natCast_ediv]
    rfl
  rw [d2 h q1.1 (by omega), d2 m q2.1 (by omega), d2 s q3.1 (by omega)] at hgr ⊢
  simp only [List.cons_append, List.nil_append, List.append_assoc] at hgr ⊢
  have s1 := grL_two (h / 10 % 10) (h % 10) (58 :: (48 + m / 10 % 10) :: (48 + m % 10) :: 58 :: (48 + s / 10 % 10) :: (48 + s % 10) :: l) [] ⟨#[]⟩ (by omega) (by omega)
  rw [List.nil_append, List.nil_append] at s1
  rw [s1, show (⟨#[]⟩ : ByteArray) = strOfNums [] from rfl, grL_sign 58 _ _ [] (.inl rfl) (by simp) (by simp)] at hgr
  rw [grL_two (m / 10 % 10) (m % 10) _ _ _ (by omega) (by omega), grL_sign 58 _ _ _ (.inl rfl) (by simp) (by simp), grL_two (s / 10 % 10) (s % 10) _ _ _ (by omega) (by omega)] at hgr
  rw [show 10 * (h / 10 % 10) + h % 10 = h by omega, show 10 * (m / 10 % 10) + m % 10 = m by omega, show 10 * (s / 10 % 10) + s % 10 = s by omega] at hgr
  clear s1 hasc d2
  by_cases hu : u = 0
  · subst hu
    rw [fraction_out 0 (.inl (by decide))] at h5
    have hl : l = [] := by
      have := congrArg ByteArray.size (Option.some.inj h5)
      rw [strOfNums_size] at this
      exact List.length_eq_zero_iff.1 this.symm
    subst hl
    have h6 := read3 _ h m s hgr q1 q2 q3 (by omega)
    rw [hsum] at h6
    exact h6
  · obtain ⟨a, d, z, hd, hs⟩ := six_some u.toNat (by omega) (by omega)
    have hl0 : (a ++ d :: List.replicate z 48).length = 6 := by rw [← hs]; rfl
    rw [List.length_append, List.length_cons, List.length_replicate] at hl0
    have hfr := fraction_in u (by omega) (by omega) a d z hd hs
    have e6 : strOfNums l = strOfNums (46 :: (a ++ [d])) := Option.some.inj (h5.symm.trans hfr)
    have hdig : Dig (sixL u.toNat) := by
      intro x hx
      simp only [sixL, List.mem_cons, List.not_mem_nil, or_false] at hx
      omega
    have hdig2 : Dig (a ++ [d]) := by
      intro x hx
      refine hdig x ?_
      rw [hs]
      simp only [List.mem_append, List.mem_cons, List.not_mem_nil, or_false] at hx ⊢
      rcases hx with g | g
      · exact .inl g
      · exact .inr (.inl g)
    have hval : up (val 0 (a ++ [d])) z = u := by
      rw [← val_rep, ← val_app, List.append_assoc]
      rw [show [d] ++ List.replicate z 48 = d :: List.replicate z 48 from rfl, ← hs, six_val _ (by omega)]
      omega
    have hv0 : 0 ≤ val 0 (a ++ [d]) := by have := val_low (a ++ [d]) 0 hdig2; omega
    have hvu := up_low z _ hv0
    have hl : l = 46 :: (a ++ [d]) := by
      have e7 : (l.map fun n => UInt8.ofNat n.toNat) = ((46 :: (a ++ [d])).map fun n => UInt8.ofNat n.toNat) := by
        rw [← strOfNums_data, ← strOfNums_data, e6]
      have ha2 : Asc (46 :: (a ++ [d])) := Asc.cons (by decide) (fun x hx => by have := hdig2 x hx; omega)
      have hinj : ∀ (p q : List Int), Asc p → Asc q → (p.map fun n => UInt8.ofNat n.toNat) = (q.map fun n => UInt8.ofNat n.toNat) → p = q := by
        intro p
        induction p with
        | nil => intro q _ _ e; cases q with
          | nil => rfl
          | cons _ _ => simp at e
        | cons x t ih => intro q hp hq e; cases q with
          | nil => simp at e
          | cons y w =>
            simp only [List.map_cons, List.cons.injEq] at e
            have hx := hp x (by simp)
            have hy := hq y (by simp)
            have e1 := congrArg UInt8.toNat e.1
            rw [UInt8.toNat_ofNat', UInt8.toNat_ofNat'] at e1
            rw [ih w (fun i hi => hp i (by simp [hi])) (fun i hi => hq i (by simp [hi])) e.2, show x = y by omega]
      exact hinj _ _ h4 ha2 e7
    subst hl
    rw [grL_sign 46 _ _ _ (.inr rfl) (by simp) (by simp), grL_run _ _ _ _ _ hdig2 (by decide) (by omega) (by decide) (by simp; omega)] at hgr
    have h6 := read4 _ h m s (val 0 (a ++ [d])) z (a.length + 1) (by rw [hgr]; simp) (by omega) (by omega) hv0 (by omega) q1 q2 q3 (by omega)
    rw [hval, hsum] at h6
    exact h6
end Go.Proofs.Ytecijnjnhdjokaa.RNum
