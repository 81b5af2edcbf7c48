/- What the clock's reading answers, once its groups are known. -/
import Derived.Test.YtecijnjnhdjokaaRLemS
import Derived.Test.YtecijnjnhdjokaaPClockRx4
namespace Go.Proofs.Ytecijnjnhdjokaa.RNum
open Go.RowKit Go.Proofs.Ytecijnjnhdjokaa.PClockR Go.Proofs.Ytecijnjnhdjokaa.Utf Go.Proofs.YtecijnjnhdjokaaW.PrintWords Go.Proofs.YtecijnjnhdjokaaW.PrintLast Go.Proofs.YtecijnjnhdjokaaW.PrintMore
set_option linter.unusedVariables false
set_option linter.unusedSimpArgs false
theorem tl (p : List Int) : (strOfNums p).toList = p.map fun n => UInt8.ofNat n.toNat := by
  rw [← strOfNums_data]
  exact ByteArray.toList_eq _
theorem one_spec (n c : Int) : clock_group_one.f n c = some (decide (c = 1 ∨ c = 2)) := by
  unfold clock_group_one.f
  by_cases h : c = 1
  · rw [if_pos h]; simp [h]
  · rw [if_neg h]; by_cases h2 : c = 2 <;> simp [h, h2]
theorem two_spec (n c : Int) : clock_group_two.f n c = some (decide (c = 2)) := by
  unfold clock_group_two.f
  by_cases h2 : c = 2 <;> simp [h2]
theorem j0_true (L : List S45) (x : ByteArray) : Ev (fun k => clock_Read.j0 k L x true) (0, 13) := Ev.step (f := fun _ => some (0, 13)) (fun k => by rw [clock_Read.j0, if_pos rfl]) (Ev.now _)
/-- The middle of the reading, the same for each of the three rows of signs. -/
def mid (k : Nat) (L : List S45) (sg : ByteArray) : Option (Int × Int) :=
  if 0 < (L.length : Int) then ((clock_group_one.f ((rd_T45 L 0).f0) ((rd_T45 L 0).f1)).bind fun t => (if t = true then (if 1 < (L.length : Int) then ((clock_group_two.f ((rd_T45 L 1).f0) ((rd_T45 L 1).f1)).bind fun t2 => (clock_Read.j0 k L sg (!t2))) else (none)) else (clock_Read.j0 k L sg true))) else (none)
theorem read_mid (k : Nat) (x : ByteArray) (L : List S45) (sg : ByteArray) (ok : Bool) (hx : clock_groups.f x = some (L, sg, ok)) :
    clock_Read.f k x = if ok = true then (if sg.toList = ([58] : List UInt8) ∨ sg.toList = ([58, 58] : List UInt8) ∨ sg.toList = ([58, 58, 46] : List UInt8) then mid k L sg else clock_Read.j0 k L sg true) else clock_Read.j0 k L sg true := by
  unfold clock_Read.f
  rw [hx, Option.bind_some]
  cases ok with
  | true =>
    simp only [if_true]
    by_cases h1 : sg.toList = ([58] : List UInt8)
    · rw [if_pos h1, if_pos (show sg.toList = ([58] : List UInt8) ∨ sg.toList = ([58, 58] : List UInt8) ∨ sg.toList = ([58, 58, 46] : List UInt8) from .inl h1)]
      rfl
    · rw [if_neg h1]
      by_cases h2 : sg.toList = ([58, 58] : List UInt8)
      · rw [if_pos h2, if_pos (show sg.toList = ([58] : List UInt8) ∨ sg.toList = ([58, 58] : List UInt8) ∨ sg.toList = ([58, 58, 46] : List UInt8) from .inr (.inl h2))]
        rfl
      · rw [if_neg h2]
        by_cases h3 : sg.toList = ([58, 58, 46] : List UInt8)
        · rw [if_pos h3, if_pos (show sg.toList = ([58] : List UInt8) ∨ sg.toList = ([58, 58] : List UInt8) ∨ sg.toList = ([58, 58, 46] : List UInt8) from .inr (.inr h3))]
          rfl
        · rw [if_neg h3, if_neg (show ¬ (sg.toList = ([58] : List UInt8) ∨ sg.toList = ([58, 58] : List UInt8) ∨ sg.toList = ([58, 58, 46] : List UInt8)) from fun g => g.elim h1 (fun g => g.elim h2 h3))]
  | false => rw [if_neg Bool.false_ne_true, if_neg Bool.false_ne_true]
theorem c_fail (x : ByteArray) (L : List S45) (sg : ByteArray) (hx : clock_groups.f x = some (L, sg, false)) : Ev (fun k => clock_Read.f k x) (0, 13) := by
  refine Ev.congr (fun k => ?_) (j0_true L sg)
  rw [read_mid k x L sg false hx, if_neg Bool.false_ne_true]
theorem c_sign (x : ByteArray) (L : List S45) (sg : ByteArray) (ok : Bool) (hx : clock_groups.f x = some (L, sg, ok)) (h : ¬ (sg.toList = ([58] : List UInt8) ∨ sg.toList = ([58, 58] : List UInt8) ∨ sg.toList = ([58, 58, 46] : List UInt8))) : Ev (fun k => clock_Read.f k x) (0, 13) := by
  refine Ev.congr (fun k => ?_) (j0_true L sg)
  rw [read_mid k x L sg ok hx, if_neg h]
  split <;> rfl
theorem c_one (x : ByteArray) (L : List S45) (sg : ByteArray) (ok : Bool) (hx : clock_groups.f x = some (L, sg, ok)) (hL : 0 < L.length) (h : ¬ ((rd_T45 L 0).f1 = 1 ∨ (rd_T45 L 0).f1 = 2)) : Ev (fun k => clock_Read.f k x) (0, 13) := by
  refine Ev.congr (fun k => ?_) (j0_true L sg)
  rw [read_mid k x L sg ok hx]
  have e : mid k L sg = clock_Read.j0 k L sg true := by
    unfold mid
    rw [if_pos (by omega), one_spec, Option.bind_some, decide_eq_false h, if_neg Bool.false_ne_true]
  rw [e]
  split
  · split <;> rfl
  · rfl
theorem c_two (x : ByteArray) (L : List S45) (sg : ByteArray) (ok : Bool) (hx : clock_groups.f x = some (L, sg, ok)) (hL : 1 < L.length) (h : ¬ (rd_T45 L 1).f1 = 2) : Ev (fun k => clock_Read.f k x) (0, 13) := by
  refine Ev.congr (fun k => ?_) (j0_true L sg)
  rw [read_mid k x L sg ok hx]
  have e : mid k L sg = clock_Read.j0 k L sg true := by
    unfold mid
    rw [if_pos (by omega), one_spec, Option.bind_some]
    by_cases h1 : (rd_T45 L 0).f1 = 1 ∨ (rd_T45 L 0).f1 = 2
    · rw [decide_eq_true h1, if_pos rfl, if_pos (by omega), two_spec, Option.bind_some, decide_eq_false h]
      rfl
    · rw [decide_eq_false h1, if_neg Bool.false_ne_true]
  rw [e]
  split
  · split <;> rfl
  · rfl
theorem c_mid (x : ByteArray) (L : List S45) (sg : ByteArray) (hx : clock_groups.f x = some (L, sg, true)) (hs : sg.toList = ([58] : List UInt8) ∨ sg.toList = ([58, 58] : List UInt8) ∨ sg.toList = ([58, 58, 46] : List UInt8)) (hL : 1 < L.length) (h1 : (rd_T45 L 0).f1 = 1 ∨ (rd_T45 L 0).f1 = 2) (h2 : (rd_T45 L 1).f1 = 2) (r : Int × Int) (hr : Ev (fun k => clock_Read.j0 k L sg false) r) : Ev (fun k => clock_Read.f k x) r := by
  refine Ev.congr (fun k => ?_) hr
  rw [read_mid k x L sg true hx, if_pos rfl, if_pos hs]
  unfold mid
  rw [if_pos (by omega), one_spec, Option.bind_some, decide_eq_true h1, if_pos rfl, if_pos (by omega), two_spec, Option.bind_some, decide_eq_true h2]
  rfl
/-- The last loop, over any answer of 'Make'. -/
theorem fillG : ∀ (z : Nat) (L : List S45) (h m s x v k : Int) (r : Int × Int), (rd_T45 L 0).f0 = h → (rd_T45 L 1).f0 = m → 1 < L.length → k + z = 6 → 0 ≤ v → up v z ≤ 999999 → 0 ≤ k → Ev (fun n => clock_Make.f n h m s (up v z)) r → Ev (fun n => clock_Read.l0 n L s x v k) r := by
  intro z
  induction z with
  | zero =>
    intro L h m s x v k r e1 e2 hL hk hv hu hk0 hm
    rw [up] at hu
    simp only [up] at hm
    refine Ev.step (f := fun n => (clock_Make.f n h m s v).bind fun b => some (b.1, b.2)) (fun n => ?_) (Ev.bind hm (Ev.now _))
    rw [clock_Read.l0, if_neg (by omega), if_pos (by omega), if_pos (by omega), e1, e2]
  | succ z ih =>
    intro L h m s x v k r e1 e2 hL hk hv hu hk0 hm
    rw [up] at hu
    simp only [up] at hm
    have hlow := up_low z (v * 10) (by omega)
    refine Ev.step (fun n => ?_) (ih L h m s x (v * 10) (k + 1) r e1 e2 hL (by omega) (by omega) hu (by omega) hm)
    rw [clock_Read.l0, if_pos (by omega), w64 _ (by omega) (by omega), w64 _ (by omega) (by omega)]
theorem j1_bad (L : List S45) (s sl v k : Int) (h : ¬ (sl = 2 ∧ k ≠ 0)) : Ev (fun n => clock_Read.j1 n L s sl v k) (0, 13) := by
  refine Ev.step (f := fun n => clock_Read.j2 n L true s sl v k) (fun n => ?_) (Ev.step (f := fun _ => some (0, 13)) (fun n => by rw [clock_Read.j2, if_pos rfl]) (Ev.now _))
  rw [clock_Read.j1, two_spec, Option.bind_some]
  by_cases h2 : sl = 2
  · have hk : k = 0 := by omega
    rw [decide_eq_true h2, if_pos rfl, hk]
    rfl
  · rw [decide_eq_false h2, if_neg Bool.false_ne_true]
theorem j1_good (L : List S45) (s v k : Int) (hk : k ≠ 0) (r : Int × Int) (hr : Ev (fun n => clock_Read.l0 n L s 2 v k) r) : Ev (fun n => clock_Read.j1 n L s 2 v k) r := by
  refine Ev.step (f := fun n => clock_Read.j2 n L false s 2 v k) (fun n => ?_) (Ev.step (fun n => by rw [clock_Read.j2, if_neg Bool.false_ne_true]) hr)
  rw [clock_Read.j1, two_spec, Option.bind_some, if_pos (by decide), show (k == 0) = false by simpa using hk]
theorem j0_1 (L : List S45) (sg : ByteArray) (hs : sg.toList = ([58] : List UInt8)) (hL : L.length = 2) (r : Int × Int) (hr : Ev (fun n => clock_Read.j1 n (L ++ [⟨0, 2⟩, ⟨0, 6⟩]) 0 2 0 6) r) : Ev (fun n => clock_Read.j0 n L sg false) r := by
  refine Ev.step (fun n => ?_) hr
  have e : (L ++ [(⟨0, 2⟩ : S45), ⟨0, 6⟩]).length = L.length + 2 := by simp
  rw [clock_Read.j0, if_neg Bool.false_ne_true, Option.bind_some, if_pos (by simp; omega), Option.bind_some, if_pos (by rw [e]; omega), if_pos (by rw [e]; omega), if_pos hs]
theorem j0_2 (L : List S45) (sg : ByteArray) (hs : sg.toList = ([58, 58] : List UInt8)) (hL : L.length = 3) (r : Int × Int) (hr : Ev (fun n => clock_Read.j1 n (L ++ [⟨0, 2⟩, ⟨0, 6⟩]) (rd_T45 L 2).f0 (rd_T45 L 2).f1 0 6) r) : Ev (fun n => clock_Read.j0 n L sg false) r := by
  refine Ev.step (fun n => ?_) hr
  have e : (L ++ [(⟨0, 2⟩ : S45), ⟨0, 6⟩]).length = L.length + 2 := by simp
  have e2 : rd_T45 (L ++ [⟨0, 2⟩, ⟨0, 6⟩]) 2 = rd_T45 L 2 := by
    unfold rd_T45
    rw [List.getD_eq_getElem?_getD, List.getD_eq_getElem?_getD, List.getElem?_append_left (by rw [hL]; decide)]
  rw [clock_Read.j0, if_neg Bool.false_ne_true, Option.bind_some, if_pos (by simp; omega), Option.bind_some, if_pos (by rw [e]; omega), if_pos (by rw [e]; omega), if_neg (by rw [hs]; decide), if_pos hs, e2]
theorem j0_3 (L : List S45) (sg : ByteArray) (hs : sg.toList = ([58, 58, 46] : List UInt8)) (hL : L.length = 4) (r : Int × Int) (hr : Ev (fun n => clock_Read.j1 n (L ++ [⟨0, 2⟩, ⟨0, 6⟩]) (rd_T45 L 2).f0 (rd_T45 L 2).f1 (rd_T45 L 3).f0 (rd_T45 L 3).f1) r) : Ev (fun n => clock_Read.j0 n L sg false) r := by
  refine Ev.step (fun n => ?_) hr
  have e : (L ++ [(⟨0, 2⟩ : S45), ⟨0, 6⟩]).length = L.length + 2 := by simp
  have e2 : rd_T45 (L ++ [⟨0, 2⟩, ⟨0, 6⟩]) 2 = rd_T45 L 2 := by
    unfold rd_T45
    rw [List.getD_eq_getElem?_getD, List.getD_eq_getElem?_getD, List.getElem?_append_left (by rw [hL]; decide)]
  have e3 : rd_T45 (L ++ [⟨0, 2⟩, ⟨0, 6⟩]) 3 = rd_T45 L 3 := by
    unfold rd_T45
    rw [List.getD_eq_getElem?_getD, List.getD_eq_getElem?_getD, List.getElem?_append_left (by rw [hL]; decide)]
  rw [clock_Read.j0, if_neg Bool.false_ne_true, Option.bind_some, if_pos (by simp; omega), Option.bind_some, if_pos (by rw [e]; omega), if_pos (by rw [e]; omega), if_neg (by rw [hs]; decide), if_neg (by rw [hs]; decide), e2, e3]
/-! The whole reading, for the groups that a text may have. -/
def Mis (s : List Int) : Prop := ∀ m, ¬ ((strOfNums (s ++ m)).toList = ([58] : List UInt8) ∨ (strOfNums (s ++ m)).toList = ([58, 58] : List UInt8) ∨ (strOfNums (s ++ m)).toList = ([58, 58, 46] : List UInt8))
/-- The last group is one that may grow. -/
def Grows (L : List S45) : Prop := L ≠ [] ∧ 0 ≤ (lastG L).f1 ∧ (lastG L).f1 ≤ 6 ∧ 0 ≤ (lastG L).f0 ∧ (lastG L).f0 < p10 (lastG L).f1.toNat
theorem grows_zero (L : List S45) : Grows (L ++ [⟨0, 0⟩]) := by
  have h := lastG_app L ⟨0, 0⟩
  exact ⟨by simp, by rw [h]; decide, by rw [h]; decide, by rw [h]; decide, by rw [h]; decide⟩
theorem d_mis (x : ByteArray) (rest : List Int) (L : List S45) (s : List Int) (hx : clock_groups.f x = grL rest L (strOfNums s)) (hg : Grows L) (h5 : L.length + rest.length ≤ 2000000) (h6 : s.length + rest.length ≤ 2000000) (hm : Mis s) : Ev (fun k => clock_Read.f k x) (0, 13) := by
  obtain ⟨L', s', ok, e, g⟩ := grL_all rest L s hg.1 hg.2.1 hg.2.2.1 hg.2.2.2.1 hg.2.2.2.2 h5 h6
  cases ok with
  | false => exact c_fail x L' (strOfNums s') (hx.trans e)
  | true =>
    obtain ⟨m, rfl, _, _⟩ := g rfl
    exact c_sign x L' _ true (hx.trans e) (hm m)
theorem d_one (x : ByteArray) (rest : List Int) (g0 : S45) (s : List Int) (hx : clock_groups.f x = grL rest [g0, ⟨0, 0⟩] (strOfNums s)) (h5 : rest.length ≤ 1900000) (h6 : s.length ≤ 100) (h : ¬ (g0.f1 = 1 ∨ g0.f1 = 2)) : Ev (fun k => clock_Read.f k x) (0, 13) := by
  have hg := grows_zero [g0]
  obtain ⟨L', s', ok, e, g⟩ := grL_all rest [g0, ⟨0, 0⟩] s hg.1 hg.2.1 hg.2.2.1 hg.2.2.2.1 hg.2.2.2.2 (by simp; omega) (by omega)
  cases ok with
  | false => exact c_fail x L' (strOfNums s') (hx.trans e)
  | true =>
    obtain ⟨m, rfl, h2, h3⟩ := g rfl
    have h30 := h3 0 (by simp)
    have e0 : rd_T45 L' 0 = g0 := by
      unfold rd_T45
      rw [Int.toNat_zero, List.getD_eq_getElem?_getD, h30]
      rfl
    exact c_one x L' _ true (hx.trans e) (by rw [h2]; simp; omega) (by rw [e0]; exact h)
theorem d_two (x : ByteArray) (rest : List Int) (g0 g1 : S45) (s : List Int) (hx : clock_groups.f x = grL rest [g0, g1, ⟨0, 0⟩] (strOfNums s)) (h5 : rest.length ≤ 1900000) (h6 : s.length ≤ 100) (h : ¬ g1.f1 = 2) : Ev (fun k => clock_Read.f k x) (0, 13) := by
  have hg := grows_zero [g0, g1]
  obtain ⟨L', s', ok, e, g⟩ := grL_all rest [g0, g1, ⟨0, 0⟩] s hg.1 hg.2.1 hg.2.2.1 hg.2.2.2.1 hg.2.2.2.2 (by simp; omega) (by omega)
  cases ok with
  | false => exact c_fail x L' (strOfNums s') (hx.trans e)
  | true =>
    obtain ⟨m, rfl, h2, h3⟩ := g rfl
    have h31 := h3 1 (by simp)
    have e1 : rd_T45 L' 1 = g1 := by
      unfold rd_T45
      rw [show (1 : Int).toNat = 1 from rfl, List.getD_eq_getElem?_getD, h31]
      rfl
    exact c_two x L' _ true (hx.trans e) (by rw [h2]; simp; omega) (by rw [e1]; exact h)
theorem d_three (x : ByteArray) (rest : List Int) (g0 g1 g2 : S45) (hx : clock_groups.f x = grL rest [g0, g1, g2, ⟨0, 0⟩] (strOfNums [58, 58, 46])) (h5 : rest.length ≤ 1900000) (h : ¬ g2.f1 = 2) (h0 : g0.f1 = 1 ∨ g0.f1 = 2) (h1 : g1.f1 = 2) : Ev (fun k => clock_Read.f k x) (0, 13) := by
  have hg := grows_zero [g0, g1, g2]
  obtain ⟨L', s', ok, e, g⟩ := grL_all rest [g0, g1, g2, ⟨0, 0⟩] [58, 58, 46] hg.1 hg.2.1 hg.2.2.1 hg.2.2.2.1 hg.2.2.2.2 (by simp; omega) (by simp; omega)
  cases ok with
  | false => exact c_fail x L' (strOfNums s') (hx.trans e)
  | true =>
    obtain ⟨m, rfl, h2, h3⟩ := g rfl
    have h30 := h3 0 (by simp)
    have h31 := h3 1 (by simp)
    have h32 := h3 2 (by simp)
    have e0 : rd_T45 L' 0 = g0 := by
      unfold rd_T45
      rw [Int.toNat_zero, List.getD_eq_getElem?_getD, h30]
      rfl
    have e1 : rd_T45 L' 1 = g1 := by
      unfold rd_T45
      rw [show (1 : Int).toNat = 1 from rfl, List.getD_eq_getElem?_getD, h31]
      rfl
    have e2 : rd_T45 L' 2 = g2 := by
      unfold rd_T45
      rw [show (2 : Int).toNat = 2 from rfl, List.getD_eq_getElem?_getD, h32]
      rfl
    cases m with
    | nil =>
      rw [List.append_nil] at e
      exact c_mid x L' _ (hx.trans e) (.inr (.inr t5)) (by rw [h2]; simp) (by rw [e0]; exact h0) (by rw [e1]; exact h1) _ (j0_3 L' _ t5 (by rw [h2]; simp) _ (j1_bad _ _ _ _ _ (by rw [e2]; exact fun q => h q.1)))
    | cons b t =>
      refine c_sign x L' _ true (hx.trans e) ?_
      rw [tl]
      simp
end Go.Proofs.Ytecijnjnhdjokaa.RNum
