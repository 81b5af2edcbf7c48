-- Written by a program of this session (mkprint.py, over the kit's print), out of the translation and of the contracts that the session gives.
import Derived.Test.YtlpbjpkjmagodaaPWordx0
import Derived.Test.YtlpbjpkjmagodaaPWordx2
import Derived.Test.YtlpbjpkjmagodaaPWordx6
import Derived.Test.YtlpbjpkjmagodaaPWordx7
namespace Go.Proofs.Ytlpbjpkjmagodaa.PWord
open Go.RowKit Go.Proofs.YtlpbjpkjmagodaaW.PrintWords Go.Proofs.YtlpbjpkjmagodaaW.PrintLast Go.Proofs.YtlpbjpkjmagodaaW.PrintMore
attribute [local go_sem] max2_int min2_int max_two min_two max_three min_three max_four min_four   -- for this text's walks alone
set_option linter.unusedVariables false
set_option linter.unusedSimpArgs false

/-! ### computuslaw05_WordTwo: function 5 -/
/-- A part, so many bytes on. -/
def shiftP (d : Int) (x : S34) : S34 := ⟨x.f0, x.f1, x.f2 + d⟩
/-- What is to be shown of two texts: they have no parts, or are too long together; or both have the parts of each. -/
def TwoOk (a0 a1 : ByteArray) : Prop := ∃ (l m : List S34) (x1 x2 e f : Int), word_Split.f a0 = some (l, x1, e) ∧ word_Split.f a1 = some (m, x2, f) ∧
  ((e ≠ 0 ∨ f ≠ 0 ∨ 2048 ≤ a0.size + a1.size) ∨
   (e = 0 ∧ f = 0 ∧ a0.size + a1.size < 2048 ∧ l.length ≤ 2048 ∧ m.length ≤ 2048 ∧ (∀ x ∈ m, 0 ≤ x.f2 ∧ x.f2 ≤ 2048) ∧ ∃ x3, word_Split.f ((a0 ++ ⟨#[32]⟩) ++ a1) = some (l ++ m.map (shiftP (a0.size + 1)), x3, 0)))
/-- THE ONE PURE STATEMENT of computuslaw05_WordTwo. -/
def computuslaw05_WordTwo.Pure : Prop := ∀ (a0 : ByteArray) (a1 : ByteArray), a0.size ≤ 140737488351232 → a1.size ≤ 140737488351232 → (∃ k, computuslaw05_known.f k = some true) ∧ TwoOk a0 a1
theorem eqB34 (d : Nat) (w : World) (x0 y0 : Int) (x1 y1 : ByteArray) (x2 y2 : Int) :
    (Op.equalIn (d + 2) 34 (.agg #[.int .i64 x0, .string x1, .int .i64 x2]) (.agg #[.int .i64 y0, .string y1, .int .i64 y2])).run Try.prog w = .ok (x0 == y0 && (x1.toList == y1.toList && (x2 == y2))) w := by
  refine eqA_of Try.underlying34 (by kernel_rfl) ?_
  refine eqf_cons (by rfl) (by go_simp; rfl) (by go_simp; rfl) (by go_simp) ?_
  refine eqf_cons (by rfl) (by go_simp; rfl) (by go_simp; rfl) (by go_simp) ?_
  exact eqf_last (by rfl) (by go_simp; rfl) (by go_simp; rfl) (by go_simp)
attribute [local go_sem high] eqB34
theorem two_cells {ok : Nat → Prop} {base : Nat} {w w1 : World} {A : Option Addr} {n c : Nat} {xs : List S34} (h : Kd.R k34 34 w base ok (.slice A n c) xs) (hb : Below w.heap.size w w1) (i : Nat) (hi : i < xs.length) :
    ∃ g, A = some ⟨g, 0, none⟩ ∧ w1.cell? ⟨g, i * 3, none⟩ = some (.int .i64 (rd_T34 xs i).f0) ∧ w1.cell? ⟨g, i * 3 + 1, none⟩ = some (.string (rd_T34 xs i).f1) ∧ w1.cell? ⟨g, i * 3 + 2, none⟩ = some (.int .i64 (rd_T34 xs i).f2) := by
  obtain ⟨g, cap, hv, _⟩ := split_open h (by omega)
  injection hv with h1 h2 h3
  subst h1 h2 h3
  obtain ⟨ad, ead, hx0, hx1, hx2⟩ := at_T34 (Kd.R_reads' h).2.2 (i : Int) (by omega) (by omega)
  injection ead with ead
  subst ead
  rw [Int.toNat_natCast, Go.Proofs.YtlpbjpkjmagodaaW.PrintWords.add_plain] at hx0 hx1 hx2
  exact ⟨g, rfl, (hb.cell (World.block_lt_of_cell? w _ hx0)).trans hx0, (hb.cell (World.block_lt_of_cell? w _ hx1)).trans hx1, (hb.cell (World.block_lt_of_cell? w _ hx2)).trans hx2⟩
set_option maxHeartbeats 2000000 in
set_option maxRecDepth 100000 in
theorem two_easy (a0 a1 : ByteArray) (l m : List S34) (x1 x2 e f : Int) (k : Nat) (hk : computuslaw05_known.f k = some true) (h1 : word_Split.f a0 = some (l, x1, e)) (h2 : word_Split.f a1 = some (m, x2, f))
    (ha : a0.size ≤ 140737488351232) (hb : a1.size ≤ 140737488351232) (h : e ≠ 0 ∨ f ≠ 0 ∨ 2048 ≤ a0.size + a1.size) (w : World) :
    Calls Try.prog 5 #[.string a0, .string a1] w fun e w' => e = .returned (.bool true) ∧ Below w.heap.size w w' := by
  have K := Aside0.mk hk
  have H1 := Aside0.mk h1
  have H2 := Aside0.mk h2
  clear hk h1 h2
  have hc : ((e != 0) = true) ∨ ((e != 0) = false ∧ (f != 0) = true) ∨ ((e != 0) = false ∧ (f != 0) = false ∧ 2048 ≤ a0.size + a1.size) := by
    by_cases h1 : e = 0
    · by_cases h2 : f = 0
      · exact .inr (.inr ⟨by simpa using h1, by simpa using h2, by rcases h with h | h | h; exact absurd h1 h; exact absurd h2 h; exact h⟩)
      · exact .inr (.inl ⟨by simpa using h1, by simpa using h2⟩)
    · exact .inl (by simpa using h1)
  clear h
  rcases hc with c1 | ⟨c1, c2⟩ | ⟨c1, c2, c3⟩
  · go_enter Try.func5, Try.ntmps5
    go_wp2_with (first | (go_at_call 9; ((with_reducible refine (word_Split.calls a0 _ _ _ _ H1.out).mono ?_); rintro e w1 ⟨v5, rfl, hR1, hb1⟩; obtain ⟨A5, q5, rfl⟩ := Kd.R_slice hR1; have HB1 := Aside0.mk hb1; clear hb1 hR1)) | (go_at_call 9; ((with_reducible refine (word_Split.calls a1 _ _ _ _ H2.out).mono ?_); rintro e w2 ⟨v8, rfl, hR2, hb2⟩; obtain ⟨A8, q8, rfl⟩ := Kd.R_slice hR2; have HB2 := Aside0.mk hb2; clear hb2 hR2)) | (go_at_call 13; refine (computuslaw05_known.calls k _ _ K.out).mono ?_; rintro e w3 ⟨rfl, hb3⟩; have HB3 := Aside0.mk hb3; clear hb3))
    go_ret
    exact ⟨rfl, below_step (below_step HB1.out HB2.out) HB3.out⟩
  · go_enter Try.func5, Try.ntmps5
    go_wp2_with (first | (go_at_call 9; ((with_reducible refine (word_Split.calls a0 _ _ _ _ H1.out).mono ?_); rintro e w1 ⟨v5, rfl, hR1, hb1⟩; obtain ⟨A5, q5, rfl⟩ := Kd.R_slice hR1; have HB1 := Aside0.mk hb1; have HR1 := Aside0.mk hR1; clear hb1 hR1)) | (go_at_call 9; ((with_reducible refine (word_Split.calls a1 _ _ _ _ H2.out).mono ?_); rintro e w2 ⟨v8, rfl, hR2, hb2⟩; obtain ⟨A8, q8, rfl⟩ := Kd.R_slice hR2; have HB2 := Aside0.mk hb2; have HR2 := Aside0.mk hR2; clear hb2 hR2)) | (go_at_call 13; refine (computuslaw05_known.calls k _ _ K.out).mono ?_; rintro e w3 ⟨rfl, hb3⟩; have HB3 := Aside0.mk hb3; clear hb3))
    go_ret
    exact ⟨rfl, below_step (below_step HB1.out HB2.out) HB3.out⟩
  · have c4 : decide ((a1.size : Int) ≥ 2048 - (a0.size : Int)) = true := decide_eq_true (by omega)
    have c5 : decide (2048 - (a0.size : Int) ≤ (a1.size : Int)) = true := decide_eq_true (by omega)
    go_enter Try.func5, Try.ntmps5
    go_wp2_with (first | (go_at_call 9; ((with_reducible refine (word_Split.calls a0 _ _ _ _ H1.out).mono ?_); rintro e w1 ⟨v5, rfl, hR1, hb1⟩; obtain ⟨A5, q5, rfl⟩ := Kd.R_slice hR1; have HB1 := Aside0.mk hb1; have HR1 := Aside0.mk hR1; clear hb1 hR1)) | (go_at_call 9; ((with_reducible refine (word_Split.calls a1 _ _ _ _ H2.out).mono ?_); rintro e w2 ⟨v8, rfl, hR2, hb2⟩; obtain ⟨A8, q8, rfl⟩ := Kd.R_slice hR2; have HB2 := Aside0.mk hb2; have HR2 := Aside0.mk hR2; clear hb2 hR2)) | (go_at_call 13; refine (computuslaw05_known.calls k _ _ K.out).mono ?_; rintro e w3 ⟨rfl, hb3⟩; have HB3 := Aside0.mk hb3; clear hb3))
    go_ret
    exact ⟨rfl, below_step (below_step HB1.out HB2.out) HB3.out⟩
theorem rd_app_left (l m : List S34) (i : Nat) (h : i < l.length) : rd_T34 (l ++ m) (i : Int) = rd_T34 l (i : Int) := by
  unfold rd_T34
  rw [Int.toNat_natCast, List.getD_eq_getElem?_getD, List.getD_eq_getElem?_getD, List.getElem?_append_left h]
theorem rd_app_right (l m : List S34) (d : Int) (i : Nat) (h : l.length ≤ i) (h2 : i < l.length + m.length) : rd_T34 (l ++ m.map (shiftP d)) (i : Int) = shiftP d (rd_T34 m ((i - l.length : Nat) : Int)) := by
  unfold rd_T34
  rw [Int.toNat_natCast, Int.toNat_natCast, List.getD_eq_getElem?_getD, List.getD_eq_getElem?_getD, List.getElem?_append_right h, List.getElem?_map, List.getElem?_eq_getElem (by omega)]
  rfl
theorem rd_mem (m : List S34) (i : Nat) (h : i < m.length) : rd_T34 m (i : Int) ∈ m := by
  unfold rd_T34
  rw [Int.toNat_natCast, List.getD_eq_getElem?_getD, List.getElem?_eq_getElem h]
  exact List.getElem_mem _
set_option maxHeartbeats 4000000 in
set_option maxRecDepth 100000 in
theorem two_hard (a0 a1 : ByteArray) (l m : List S34) (x1 x2 x3 : Int) (k : Nat) (hk : computuslaw05_known.f k = some true) (h1 : word_Split.f a0 = some (l, x1, 0)) (h2 : word_Split.f a1 = some (m, x2, 0))
    (hs : a0.size + a1.size < 2048) (hl : l.length ≤ 2048) (hm : m.length ≤ 2048) (hf : ∀ x ∈ m, 0 ≤ x.f2 ∧ x.f2 ≤ 2048) (h3 : word_Split.f ((a0 ++ ⟨#[32]⟩) ++ a1) = some (l ++ m.map (shiftP (a0.size + 1)), x3, 0)) (w : World) :
    Calls Try.prog 5 #[.string a0, .string a1] w fun e w' => e = .returned (.bool true) ∧ Below w.heap.size w w' := by
  have K := Aside0.mk hk
  have H1 := Aside0.mk h1
  have H2 := Aside0.mk h2
  have H3 := Aside0.mk h3
  have HF := Aside0.mk hf
  clear hk h1 h2 h3 hf
  have hb : a1.size ≤ 2048 := by omega
  have ha : a0.size ≤ 2048 := by omega
  have c4 : decide ((a1.size : Int) ≥ 2048 - (a0.size : Int)) = false := decide_eq_false (by omega)
  have c5 : decide (2048 - (a0.size : Int) ≤ (a1.size : Int)) = false := decide_eq_false (by omega)
  have s1 : (a0 ++ (⟨#[32]⟩ : ByteArray)).size ≤ 2049 := by rw [ByteArray.size_append]; show a0.size + 1 ≤ 2049; omega
  obtain ⟨n, hn⟩ : ∃ n, n = l ++ m.map (shiftP (a0.size + 1)) := ⟨_, rfl⟩
  have hnl : n.length = l.length + m.length := by rw [hn, List.length_append, List.length_map]
  rw [← hn] at H3
  have HN := Aside0.mk hn
  have HNL := Aside0.mk hnl
  have c6 : ((n.length : Int) != (l.length : Int) + (m.length : Int)) = false := by simp; omega
  clear hs hn hnl
  go_enter Try.func5, Try.ntmps5
  go_wp2_with (first | (go_at_call 9; ((with_reducible refine (word_Split.calls a0 _ _ _ _ H1.out).mono ?_); rintro e w1 ⟨v5, rfl, hR1, hb1⟩; obtain ⟨A5, q5, rfl⟩ := Kd.R_slice hR1; have HB1 := Aside0.mk hb1; have HR1 := Aside0.mk hR1; clear hb1 hR1)) | (go_at_call 9; ((with_reducible refine (word_Split.calls a1 _ _ _ _ H2.out).mono ?_); rintro e w2 ⟨v8, rfl, hR2, hb2⟩; obtain ⟨A8, q8, rfl⟩ := Kd.R_slice hR2; have HB2 := Aside0.mk hb2; have HR2 := Aside0.mk hR2; clear hb2 hR2)) | (go_at_call 9; ((with_reducible refine (word_Split.calls ((a0 ++ ⟨#[32]⟩) ++ a1) _ _ _ _ H3.out).mono ?_); rintro e w3 ⟨v11, rfl, hR3, hb3⟩; obtain ⟨A11, q11, rfl⟩ := Kd.R_slice hR3; have HB3 := Aside0.mk hb3; have HR3 := Aside0.mk hR3; clear hb3 hR3)))
  have HB2' := Aside0.mk (below_step HB1.out HB2.out)
  have HB := Aside0.mk (below_step HB2'.out HB3.out)
  have hR1 := Kd.R_below (Kd.R_below HR1.out HB2.out) HB3.out
  have hR2 := Kd.R_below HR2.out HB3.out
  have HQ1 := Aside0.mk hR1
  have HQ2 := Aside0.mk hR2
  clear hR1 hR2 HR1 HR2 HB1 HB2 HB2' HB3 c4 c5 c6 s1
  go_loopg [14] (n.length + 1) (fun kq v14 w' => ∃ i : Nat, v14 = .int .i64 i ∧ i ≤ n.length ∧ Aside0 (kq + i = n.length + 1) ∧ Aside0 (Below w3.heap.size w3 w'))
  case atStart => exact ⟨0, rfl, Nat.zero_le _, ⟨rfl⟩, ⟨Below.refl _ _⟩⟩
  case round =>
    obtain ⟨i, rfl, hi, HK, HW⟩ := hrel
    by_cases hin : i < n.length
    · have hnb : n.length ≤ 4096 := by have := HNL.out; omega
      obtain ⟨g11, e11, n0, n1, n2⟩ := two_cells HR3.out HW.out i hin
      subst e11
      by_cases hil : i < l.length
      · obtain ⟨g5, e5, y0, y1, y2⟩ := two_cells HQ1.out HW.out i hil
        subst e5
        have hrd : rd_T34 n (i : Int) = rd_T34 l (i : Int) := by rw [HN.out]; exact rd_app_left _ _ _ hil
        rw [hrd] at n0 n1 n2
        clear hrd
        generalize rd_T34 l (i : Int) = q at n0 n1 n2 y0 y1 y2
        have lt5 : g5 < wr.heap.size := World.block_lt_of_cell? wr _ y0
        have lt11 : g11 < wr.heap.size := World.block_lt_of_cell? wr _ n0
        have ne5 : g5 ≠ wr.heap.size := by omega
        have ne11 : g11 ≠ wr.heap.size := by omega
        have me5 : wr.heap.size ≠ g5 := by omega
        have me11 : wr.heap.size ≠ g11 := by omega
        go_wp2
        go_quiet (fail)
        go_wp2
        go_roundg (n.length - i)
        case measure => have := HK.out; omega
        case rel => exact ⟨i + 1, by go_num, by omega, ⟨by omega⟩, ⟨by repeat (first | exact HW.out | apply pw_below_drewN | refine Below.setCell ?_ HW.out.size _ | refine Below.alloc ?_ HW.out.size _)⟩⟩
      · obtain ⟨j, rfl⟩ : ∃ j, i = l.length + j := ⟨i - l.length, by omega⟩
        have hjm : j < m.length := by have := HNL.out; omega
        obtain ⟨g8, e8, y0, y1, y2⟩ := two_cells HQ2.out HW.out j hjm
        subst e8
        have hrd : rd_T34 n ((l.length + j : Nat) : Int) = shiftP (a0.size + 1) (rd_T34 m (j : Int)) := by rw [HN.out, rd_app_right _ _ _ _ (Nat.le_add_right _ _) (by omega), Nat.add_sub_cancel_left]
        have hf2 := HF.out _ (rd_mem m j hjm)
        rw [hrd] at n0 n1 n2
        clear hrd
        generalize rd_T34 m (j : Int) = q at n0 n1 n2 y0 y1 y2 hf2
        obtain ⟨hf0, hf1⟩ := hf2
        unfold shiftP at n0 n1 n2
        simp only at n0 n1 n2
        rw [← Int.add_assoc] at n2
        have lt8 : g8 < wr.heap.size := World.block_lt_of_cell? wr _ y0
        have lt11 : g11 < wr.heap.size := World.block_lt_of_cell? wr _ n0
        have ne8 : g8 ≠ wr.heap.size := by omega
        have ne11 : g11 ≠ wr.heap.size := by omega
        have me8 : wr.heap.size ≠ g8 := by omega
        have me11 : wr.heap.size ≠ g11 := by omega
        go_wp2
        go_quiet (fail)
        go_wp2
        go_roundg (n.length - (l.length + j))
        case measure => have := HK.out; omega
        case rel => exact ⟨l.length + j + 1, by go_num, by omega, ⟨by omega⟩, ⟨by repeat (first | exact HW.out | apply pw_below_drewN | refine Below.setCell ?_ HW.out.size _ | refine Below.alloc ?_ HW.out.size _)⟩⟩
    · go_wp2_with (first | (go_at_call 13; refine (computuslaw05_known.calls k _ _ K.out).mono ?_; rintro e w4 ⟨rfl, hb4⟩; have HB4 := Aside0.mk hb4; clear hb4))
      go_ret
      exact ⟨rfl, below_step (below_step HB.out HW.out) HB4.out⟩
/-- The law's walk. -/
theorem computuslaw05_WordTwo.walk (P : computuslaw05_WordTwo.Pure) (a0 : ByteArray) (a1 : ByteArray) (w : World) (w0 : a0.size ≤ 140737488351232) (w1 : a1.size ≤ 140737488351232) :
    Calls Try.prog 5 #[.string a0, .string a1] w fun e w' => e = .returned (.bool true) ∧ Below w.heap.size w w' := by
  obtain ⟨⟨k, hk⟩, l, m, x1, x2, e, f, h1, h2, h⟩ := P a0 a1 w0 w1
  rcases h with h | ⟨rfl, rfl, hs, hl, hm, hf, x3, h3⟩
  · exact two_easy a0 a1 l m x1 x2 e f k hk h1 h2 w0 w1 h w
  · exact two_hard a0 a1 l m x1 x2 x3 k hk h1 h2 hs hl hm hf h3 w


/-! ### computuslaw05_WordSame: function 6 -/
def computuslaw05_WordSame.f (k : Nat) (a0 : ByteArray) (a1 : ByteArray) : Option (Bool) := (word_Lower.f a0).bind fun t182 => ((word_Lower.f t182).bind fun t183 => (if t183.toList = t182.toList then (if (t182.size : Int) = (a0.size : Int) then ((word_Same.f a0 t182).bind fun t184 => (if t184 = true then ((word_Same.f a0 a1).bind fun t185 => ((word_Lower.f a1).bind fun t186 => (if (t185 == (t182.toList == t186.toList)) = true then ((word_Same.f a0 a1).bind fun t187 => ((word_Same.f a1 a0).bind fun t188 => (if (t187 == t188) = true then ((computuslaw05_known.f k).bind fun t189 => (some t189)) else (some false)))) else (some false)))) else (some false))) else (some false)) else (some false)))
theorem computuslaw05_WordSame.mono : ∀ a0 a1 k, LeO (computuslaw05_WordSame.f k a0 a1) (computuslaw05_WordSame.f (k + 1) a0 a1) := by
  intro a0 a1 k
  unfold computuslaw05_WordSame.f
  repeat' first
      | (with_reducible exact computuslaw05_known.mono _)
      | (with_reducible exact LeO.refl _)
      | (with_reducible exact LeO.none _)
      | (with_reducible refine LeO.ite ?_ ?_)
      | (with_reducible refine LeO.bind ?_ (fun _ => ?_))
      | exact computuslaw05_known.mono _
      | exact LeO.none _
      | refine LeO.ite ?_ ?_
      | refine LeO.bind ?_ (fun _ => ?_)
set_option maxHeartbeats 8000000 in
set_option maxRecDepth 100000 in
theorem computuslaw05_WordSame.calls (k : Nat) (a0 : ByteArray) (a1 : ByteArray) (r : Bool) (w : World) (h : computuslaw05_WordSame.f k a0 a1 = some r) :
    Calls Try.prog 6 #[.string a0, .string a1] w fun e w' => e = .returned (.bool r) ∧ Below w.heap.size w w' := by
  have HB := Aside0.mk (Below.refl w.heap.size w)
  have H : ((word_Lower.f a0).bind fun t182 => ((word_Lower.f t182).bind fun t183 => (if t183.toList = t182.toList then (if (t182.size : Int) = (a0.size : Int) then ((word_Same.f a0 t182).bind fun t184 => (if t184 = true then ((word_Same.f a0 a1).bind fun t185 => ((word_Lower.f a1).bind fun t186 => (if (t185 == (t182.toList == t186.toList)) = true then ((word_Same.f a0 a1).bind fun t187 => ((word_Same.f a1 a0).bind fun t188 => (if (t187 == t188) = true then ((computuslaw05_known.f k).bind fun t189 => (some t189)) else (some false)))) else (some false)))) else (some false))) else (some false)) else (some false)))) = some r := h
  clear h
  replace H := Option.bind_eq_some_iff.mp H
  obtain ⟨t182, A30, H⟩ := H
  replace H : ((word_Lower.f t182).bind fun t183 => (if t183.toList = t182.toList then (if (t182.size : Int) = (a0.size : Int) then ((word_Same.f a0 t182).bind fun t184 => (if t184 = true then ((word_Same.f a0 a1).bind fun t185 => ((word_Lower.f a1).bind fun t186 => (if (t185 == (t182.toList == t186.toList)) = true then ((word_Same.f a0 a1).bind fun t187 => ((word_Same.f a1 a0).bind fun t188 => (if (t187 == t188) = true then ((computuslaw05_known.f k).bind fun t189 => (some t189)) else (some false)))) else (some false)))) else (some false))) else (some false)) else (some false))) = some r := H
  have A3 := Aside0.mk A30
  clear A30
  replace H := Option.bind_eq_some_iff.mp H
  obtain ⟨t183, A40, H⟩ := H
  replace H : (if t183.toList = t182.toList then (if (t182.size : Int) = (a0.size : Int) then ((word_Same.f a0 t182).bind fun t184 => (if t184 = true then ((word_Same.f a0 a1).bind fun t185 => ((word_Lower.f a1).bind fun t186 => (if (t185 == (t182.toList == t186.toList)) = true then ((word_Same.f a0 a1).bind fun t187 => ((word_Same.f a1 a0).bind fun t188 => (if (t187 == t188) = true then ((computuslaw05_known.f k).bind fun t189 => (some t189)) else (some false)))) else (some false)))) else (some false))) else (some false)) else (some false)) = some r := H
  have A4 := Aside0.mk A40
  clear A40
  by_cases c5 : t183.toList = t182.toList
  · rw [if_pos c5] at H
    have c5b0 : (t183.toList == t182.toList) = true := beq_iff_eq.mpr c5
    have c5b1 : (t183.toList != t182.toList) = false := bne_eq_false_iff_eq.mpr c5
    clear c5
    by_cases c6 : (t182.size : Int) = (a0.size : Int)
    · rw [if_pos c6] at H
      have c6b0 : ((t182.size : Int) == (a0.size : Int)) = true := beq_iff_eq.mpr c6
      have c6b1 : ((t182.size : Int) != (a0.size : Int)) = false := bne_eq_false_iff_eq.mpr c6
      have c6b2 : (t182.size == a0.size) = true := by first | simpa using c6 | (simp at c6 ⊢; omega)
      clear c6
      replace H := Option.bind_eq_some_iff.mp H
      obtain ⟨t184, A70, H⟩ := H
      replace H : (if t184 = true then ((word_Same.f a0 a1).bind fun t185 => ((word_Lower.f a1).bind fun t186 => (if (t185 == (t182.toList == t186.toList)) = true then ((word_Same.f a0 a1).bind fun t187 => ((word_Same.f a1 a0).bind fun t188 => (if (t187 == t188) = true then ((computuslaw05_known.f k).bind fun t189 => (some t189)) else (some false)))) else (some false)))) else (some false)) = some r := H
      have A7 := Aside0.mk A70
      clear A70
      by_cases c8 : t184 = true
      · subst c8
        have H1 : ((word_Same.f a0 a1).bind fun t185 => ((word_Lower.f a1).bind fun t186 => (if (t185 == (t182.toList == t186.toList)) = true then ((word_Same.f a0 a1).bind fun t187 => ((word_Same.f a1 a0).bind fun t188 => (if (t187 == t188) = true then ((computuslaw05_known.f k).bind fun t189 => (some t189)) else (some false)))) else (some false)))) = some r := by rw [if_pos rfl] at H; exact H
        clear H
        have H := H1
        clear H1
        replace H := Option.bind_eq_some_iff.mp H
        obtain ⟨t185, A90, H⟩ := H
        replace H : ((word_Lower.f a1).bind fun t186 => (if (t185 == (t182.toList == t186.toList)) = true then ((word_Same.f a0 a1).bind fun t187 => ((word_Same.f a1 a0).bind fun t188 => (if (t187 == t188) = true then ((computuslaw05_known.f k).bind fun t189 => (some t189)) else (some false)))) else (some false))) = some r := H
        have A9 := Aside0.mk A90
        clear A90
        replace H := Option.bind_eq_some_iff.mp H
        obtain ⟨t186, A100, H⟩ := H
        replace H : (if (t185 == (t182.toList == t186.toList)) = true then ((word_Same.f a0 a1).bind fun t187 => ((word_Same.f a1 a0).bind fun t188 => (if (t187 == t188) = true then ((computuslaw05_known.f k).bind fun t189 => (some t189)) else (some false)))) else (some false)) = some r := H
        have A10 := Aside0.mk A100
        clear A100
        by_cases c11 : (t185 == (t182.toList == t186.toList)) = true
        · rw [if_pos c11] at H
          have c11b0 : (t185 == (t182.toList == t186.toList)) = true := c11
          (try (have c11b1 : decide (t185 = (t182.toList == t186.toList)) = true := by simpa using c11))
          (try (have c11b2 : (t185 == (t182.toList == t186.toList)) = true := by simpa using c11))
          clear c11
          replace H := Option.bind_eq_some_iff.mp H
          obtain ⟨qt187, A120, H⟩ := H
          obtain rfl : t185 = qt187 := Option.some.inj (A9.out.symm.trans A120)
          replace H : ((word_Same.f a1 a0).bind fun t188 => (if (t185 == t188) = true then ((computuslaw05_known.f k).bind fun t189 => (some t189)) else (some false))) = some r := H
          have A12 := Aside0.mk A120
          clear A120
          replace H := Option.bind_eq_some_iff.mp H
          obtain ⟨t188, A130, H⟩ := H
          replace H : (if (t185 == t188) = true then ((computuslaw05_known.f k).bind fun t189 => (some t189)) else (some false)) = some r := H
          have A13 := Aside0.mk A130
          clear A130
          by_cases c14 : (t185 == t188) = true
          · rw [if_pos c14] at H
            have c14b0 : (t185 == t188) = true := c14
            (try (have c14b1 : decide (t185 = t188) = true := by simpa using c14))
            (try (have c14b2 : (t185 == t188) = true := by simpa using c14))
            clear c14
            replace H := Option.bind_eq_some_iff.mp H
            obtain ⟨t189, A150, H⟩ := H
            replace H : (some t189) = some r := H
            have A15 := Aside0.mk A150
            clear A150
            obtain rfl := Option.some.inj H
            go_enter Try.func6, Try.ntmps6
            go_wp2_with (first | ((with_reducible refine gate_callee (f := 14) rfl ?_); refine goesL_ (some 7) rfl rfl Try.func14 (by kernel_rfl) rfl #[.string a0] rfl (by (try simp only [List.map_toArray, List.map_cons, List.map_nil]); first | done | rfl | (simp only [List.length_drop, List.length_take]; rfl)) ?_; (with_reducible refine (word_Lower.calls a0 t182 _ A3.out).mono ?_); rintro e w16 ⟨rfl, hb⟩; refine ⟨_, rfl, ?_⟩; have n0_ := Aside0.mk (below_step (by repeat (first | (with_reducible first | exact HB.out | apply below_alloc | apply pw_below_drewN | apply below_drew1) | exact HB.out)) hb); clear HB; have HB := n0_; clear n0_; (try clear hb); (try clear hb2); (try clear hk); (try clear hi)) | ((with_reducible refine gate_callee (f := 14) rfl ?_); refine goesL_ (some 9) rfl rfl Try.func14 (by kernel_rfl) rfl #[.string t182] rfl (by (try simp only [List.map_toArray, List.map_cons, List.map_nil]); first | done | rfl | (simp only [List.length_drop, List.length_take]; rfl)) ?_; (with_reducible refine (word_Lower.calls t182 t183 _ A4.out).mono ?_); rintro e w17 ⟨rfl, hb⟩; refine ⟨_, rfl, ?_⟩; have n0_ := Aside0.mk (below_step (by repeat (first | (with_reducible first | exact HB.out | apply below_alloc | apply pw_below_drewN | apply below_drew1) | exact HB.out)) hb); clear HB; have HB := n0_; clear n0_; (try clear hb); (try clear hb2); (try clear hk); (try clear hi)) | (go_at_call 15; (with_reducible refine (word_Same.calls a0 t182 true _ A7.out).mono ?_); rintro e w18 ⟨rfl, hb⟩; have n0_ := Aside0.mk (below_step (by repeat (first | (with_reducible first | exact HB.out | apply below_alloc | apply pw_below_drewN | apply below_drew1) | exact HB.out)) hb); clear HB; have HB := n0_; clear n0_; (try clear hb); (try clear hb2); (try clear hk); (try clear hi)) | (go_at_call 15; (with_reducible refine (word_Same.calls a0 a1 t185 _ A9.out).mono ?_); rintro e w19 ⟨rfl, hb⟩; have n0_ := Aside0.mk (below_step (by repeat (first | (with_reducible first | exact HB.out | apply below_alloc | apply pw_below_drewN | apply below_drew1) | exact HB.out)) hb); clear HB; have HB := n0_; clear n0_; (try clear hb); (try clear hb2); (try clear hk); (try clear hi)) | (go_at_call 14; (with_reducible refine (word_Lower.calls a1 t186 _ A10.out).mono ?_); rintro e w20 ⟨rfl, hb⟩; have n0_ := Aside0.mk (below_step (by repeat (first | (with_reducible first | exact HB.out | apply below_alloc | apply pw_below_drewN | apply below_drew1) | exact HB.out)) hb); clear HB; have HB := n0_; clear n0_; (try clear hb); (try clear hb2); (try clear hk); (try clear hi)) | (go_at_call 15; (with_reducible refine (word_Same.calls a0 a1 t185 _ A12.out).mono ?_); rintro e w21 ⟨rfl, hb⟩; have n0_ := Aside0.mk (below_step (by repeat (first | (with_reducible first | exact HB.out | apply below_alloc | apply pw_below_drewN | apply below_drew1) | exact HB.out)) hb); clear HB; have HB := n0_; clear n0_; (try clear hb); (try clear hb2); (try clear hk); (try clear hi)) | (go_at_call 15; (with_reducible refine (word_Same.calls a1 a0 t188 _ A13.out).mono ?_); rintro e w22 ⟨rfl, hb⟩; have n0_ := Aside0.mk (below_step (by repeat (first | (with_reducible first | exact HB.out | apply below_alloc | apply pw_below_drewN | apply below_drew1) | exact HB.out)) hb); clear HB; have HB := n0_; clear n0_; (try clear hb); (try clear hb2); (try clear hk); (try clear hi)) | (go_at_call 13; (with_reducible refine (computuslaw05_known.calls k  t189 _ A15.out).mono ?_); rintro e w23 ⟨rfl, hb⟩; have n0_ := Aside0.mk (below_step (by repeat (first | (with_reducible first | exact HB.out | apply below_alloc | apply pw_below_drewN | apply below_drew1) | exact HB.out)) hb); clear HB; have HB := n0_; clear n0_; (try clear hb); (try clear hb2); (try clear hk); (try clear hi)))
            go_ret
            exact ⟨by first | rfl | (simp [errW_none, errW_some] <;> rfl) | (simp [*, errW_none, errW_some] <;> rfl), by repeat (first | (with_reducible first | exact HB.out | apply below_alloc | apply pw_below_drewN | apply below_drew1) | exact HB.out)⟩
          · rw [if_neg c14] at H
            have c14b0 : (t185 == t188) = false := by simpa using c14
            (try (have c14b1 : decide (t185 = t188) = false := by simpa using c14))
            (try (have c14b2 : (t185 == t188) = false := by simpa using c14))
            (try (have c14b3 : ¬ (t185 = t188) := by simpa using c14))
            clear c14
            obtain rfl := Option.some.inj H
            go_enter Try.func6, Try.ntmps6
            go_wp2_with (first | ((with_reducible refine gate_callee (f := 14) rfl ?_); refine goesL_ (some 7) rfl rfl Try.func14 (by kernel_rfl) rfl #[.string a0] rfl (by (try simp only [List.map_toArray, List.map_cons, List.map_nil]); first | done | rfl | (simp only [List.length_drop, List.length_take]; rfl)) ?_; (with_reducible refine (word_Lower.calls a0 t182 _ A3.out).mono ?_); rintro e w24 ⟨rfl, hb⟩; refine ⟨_, rfl, ?_⟩; have n0_ := Aside0.mk (below_step (by repeat (first | (with_reducible first | exact HB.out | apply below_alloc | apply pw_below_drewN | apply below_drew1) | exact HB.out)) hb); clear HB; have HB := n0_; clear n0_; (try clear hb); (try clear hb2); (try clear hk); (try clear hi)) | ((with_reducible refine gate_callee (f := 14) rfl ?_); refine goesL_ (some 9) rfl rfl Try.func14 (by kernel_rfl) rfl #[.string t182] rfl (by (try simp only [List.map_toArray, List.map_cons, List.map_nil]); first | done | rfl | (simp only [List.length_drop, List.length_take]; rfl)) ?_; (with_reducible refine (word_Lower.calls t182 t183 _ A4.out).mono ?_); rintro e w25 ⟨rfl, hb⟩; refine ⟨_, rfl, ?_⟩; have n0_ := Aside0.mk (below_step (by repeat (first | (with_reducible first | exact HB.out | apply below_alloc | apply pw_below_drewN | apply below_drew1) | exact HB.out)) hb); clear HB; have HB := n0_; clear n0_; (try clear hb); (try clear hb2); (try clear hk); (try clear hi)) | (go_at_call 15; (with_reducible refine (word_Same.calls a0 t182 true _ A7.out).mono ?_); rintro e w26 ⟨rfl, hb⟩; have n0_ := Aside0.mk (below_step (by repeat (first | (with_reducible first | exact HB.out | apply below_alloc | apply pw_below_drewN | apply below_drew1) | exact HB.out)) hb); clear HB; have HB := n0_; clear n0_; (try clear hb); (try clear hb2); (try clear hk); (try clear hi)) | (go_at_call 15; (with_reducible refine (word_Same.calls a0 a1 t185 _ A9.out).mono ?_); rintro e w27 ⟨rfl, hb⟩; have n0_ := Aside0.mk (below_step (by repeat (first | (with_reducible first | exact HB.out | apply below_alloc | apply pw_below_drewN | apply below_drew1) | exact HB.out)) hb); clear HB; have HB := n0_; clear n0_; (try clear hb); (try clear hb2); (try clear hk); (try clear hi)) | (go_at_call 14; (with_reducible refine (word_Lower.calls a1 t186 _ A10.out).mono ?_); rintro e w28 ⟨rfl, hb⟩; have n0_ := Aside0.mk (below_step (by repeat (first | (with_reducible first | exact HB.out | apply below_alloc | apply pw_below_drewN | apply below_drew1) | exact HB.out)) hb); clear HB; have HB := n0_; clear n0_; (try clear hb); (try clear hb2); (try clear hk); (try clear hi)) | (go_at_call 15; (with_reducible refine (word_Same.calls a0 a1 t185 _ A12.out).mono ?_); rintro e w29 ⟨rfl, hb⟩; have n0_ := Aside0.mk (below_step (by repeat (first | (with_reducible first | exact HB.out | apply below_alloc | apply pw_below_drewN | apply below_drew1) | exact HB.out)) hb); clear HB; have HB := n0_; clear n0_; (try clear hb); (try clear hb2); (try clear hk); (try clear hi)) | (go_at_call 15; (with_reducible refine (word_Same.calls a1 a0 t188 _ A13.out).mono ?_); rintro e w30 ⟨rfl, hb⟩; have n0_ := Aside0.mk (below_step (by repeat (first | (with_reducible first | exact HB.out | apply below_alloc | apply pw_below_drewN | apply below_drew1) | exact HB.out)) hb); clear HB; have HB := n0_; clear n0_; (try clear hb); (try clear hb2); (try clear hk); (try clear hi)))
            go_ret
            exact ⟨by first | rfl | (simp [errW_none, errW_some] <;> rfl) | (simp [*, errW_none, errW_some] <;> rfl), by repeat (first | (with_reducible first | exact HB.out | apply below_alloc | apply pw_below_drewN | apply below_drew1) | exact HB.out)⟩
        · rw [if_neg c11] at H
          have c11b0 : (t185 == (t182.toList == t186.toList)) = false := by simpa using c11
          (try (have c11b1 : decide (t185 = (t182.toList == t186.toList)) = false := by simpa using c11))
          (try (have c11b2 : (t185 == (t182.toList == t186.toList)) = false := by simpa using c11))
          (try (have c11b3 : ¬ (t185 = (t182.toList == t186.toList)) := by simpa using c11))
          clear c11
          obtain rfl := Option.some.inj H
          go_enter Try.func6, Try.ntmps6
          go_wp2_with (first | ((with_reducible refine gate_callee (f := 14) rfl ?_); refine goesL_ (some 7) rfl rfl Try.func14 (by kernel_rfl) rfl #[.string a0] rfl (by (try simp only [List.map_toArray, List.map_cons, List.map_nil]); first | done | rfl | (simp only [List.length_drop, List.length_take]; rfl)) ?_; (with_reducible refine (word_Lower.calls a0 t182 _ A3.out).mono ?_); rintro e w31 ⟨rfl, hb⟩; refine ⟨_, rfl, ?_⟩; have n0_ := Aside0.mk (below_step (by repeat (first | (with_reducible first | exact HB.out | apply below_alloc | apply pw_below_drewN | apply below_drew1) | exact HB.out)) hb); clear HB; have HB := n0_; clear n0_; (try clear hb); (try clear hb2); (try clear hk); (try clear hi)) | ((with_reducible refine gate_callee (f := 14) rfl ?_); refine goesL_ (some 9) rfl rfl Try.func14 (by kernel_rfl) rfl #[.string t182] rfl (by (try simp only [List.map_toArray, List.map_cons, List.map_nil]); first | done | rfl | (simp only [List.length_drop, List.length_take]; rfl)) ?_; (with_reducible refine (word_Lower.calls t182 t183 _ A4.out).mono ?_); rintro e w32 ⟨rfl, hb⟩; refine ⟨_, rfl, ?_⟩; have n0_ := Aside0.mk (below_step (by repeat (first | (with_reducible first | exact HB.out | apply below_alloc | apply pw_below_drewN | apply below_drew1) | exact HB.out)) hb); clear HB; have HB := n0_; clear n0_; (try clear hb); (try clear hb2); (try clear hk); (try clear hi)) | (go_at_call 15; (with_reducible refine (word_Same.calls a0 t182 true _ A7.out).mono ?_); rintro e w33 ⟨rfl, hb⟩; have n0_ := Aside0.mk (below_step (by repeat (first | (with_reducible first | exact HB.out | apply below_alloc | apply pw_below_drewN | apply below_drew1) | exact HB.out)) hb); clear HB; have HB := n0_; clear n0_; (try clear hb); (try clear hb2); (try clear hk); (try clear hi)) | (go_at_call 15; (with_reducible refine (word_Same.calls a0 a1 t185 _ A9.out).mono ?_); rintro e w34 ⟨rfl, hb⟩; have n0_ := Aside0.mk (below_step (by repeat (first | (with_reducible first | exact HB.out | apply below_alloc | apply pw_below_drewN | apply below_drew1) | exact HB.out)) hb); clear HB; have HB := n0_; clear n0_; (try clear hb); (try clear hb2); (try clear hk); (try clear hi)) | (go_at_call 14; (with_reducible refine (word_Lower.calls a1 t186 _ A10.out).mono ?_); rintro e w35 ⟨rfl, hb⟩; have n0_ := Aside0.mk (below_step (by repeat (first | (with_reducible first | exact HB.out | apply below_alloc | apply pw_below_drewN | apply below_drew1) | exact HB.out)) hb); clear HB; have HB := n0_; clear n0_; (try clear hb); (try clear hb2); (try clear hk); (try clear hi)))
          go_ret
          exact ⟨by first | rfl | (simp [errW_none, errW_some] <;> rfl) | (simp [*, errW_none, errW_some] <;> rfl), by repeat (first | (with_reducible first | exact HB.out | apply below_alloc | apply pw_below_drewN | apply below_drew1) | exact HB.out)⟩
      · replace c8 := Bool.eq_false_iff.mpr c8
        subst c8
        have H1 : (some false) = some r := by rw [if_neg (show ¬ (false = true) by decide)] at H; exact H
        clear H
        have H := H1
        clear H1
        obtain rfl := Option.some.inj H
        go_enter Try.func6, Try.ntmps6
        go_wp2_with (first | ((with_reducible refine gate_callee (f := 14) rfl ?_); refine goesL_ (some 7) rfl rfl Try.func14 (by kernel_rfl) rfl #[.string a0] rfl (by (try simp only [List.map_toArray, List.map_cons, List.map_nil]); first | done | rfl | (simp only [List.length_drop, List.length_take]; rfl)) ?_; (with_reducible refine (word_Lower.calls a0 t182 _ A3.out).mono ?_); rintro e w36 ⟨rfl, hb⟩; refine ⟨_, rfl, ?_⟩; have n0_ := Aside0.mk (below_step (by repeat (first | (with_reducible first | exact HB.out | apply below_alloc | apply pw_below_drewN | apply below_drew1) | exact HB.out)) hb); clear HB; have HB := n0_; clear n0_; (try clear hb); (try clear hb2); (try clear hk); (try clear hi)) | ((with_reducible refine gate_callee (f := 14) rfl ?_); refine goesL_ (some 9) rfl rfl Try.func14 (by kernel_rfl) rfl #[.string t182] rfl (by (try simp only [List.map_toArray, List.map_cons, List.map_nil]); first | done | rfl | (simp only [List.length_drop, List.length_take]; rfl)) ?_; (with_reducible refine (word_Lower.calls t182 t183 _ A4.out).mono ?_); rintro e w37 ⟨rfl, hb⟩; refine ⟨_, rfl, ?_⟩; have n0_ := Aside0.mk (below_step (by repeat (first | (with_reducible first | exact HB.out | apply below_alloc | apply pw_below_drewN | apply below_drew1) | exact HB.out)) hb); clear HB; have HB := n0_; clear n0_; (try clear hb); (try clear hb2); (try clear hk); (try clear hi)) | (go_at_call 15; (with_reducible refine (word_Same.calls a0 t182 false _ A7.out).mono ?_); rintro e w38 ⟨rfl, hb⟩; have n0_ := Aside0.mk (below_step (by repeat (first | (with_reducible first | exact HB.out | apply below_alloc | apply pw_below_drewN | apply below_drew1) | exact HB.out)) hb); clear HB; have HB := n0_; clear n0_; (try clear hb); (try clear hb2); (try clear hk); (try clear hi)))
        go_ret
        exact ⟨by first | rfl | (simp [errW_none, errW_some] <;> rfl) | (simp [*, errW_none, errW_some] <;> rfl), by repeat (first | (with_reducible first | exact HB.out | apply below_alloc | apply pw_below_drewN | apply below_drew1) | exact HB.out)⟩
    · rw [if_neg c6] at H
      have c6b0 : ((t182.size : Int) == (a0.size : Int)) = false := beq_eq_false_iff_ne.mpr c6
      have c6b1 : ((t182.size : Int) != (a0.size : Int)) = true := bne_iff_ne.mpr c6
      have c6b2 : (t182.size == a0.size) = false := by first | simpa using c6 | (simp at c6 ⊢; omega)
      obtain rfl := Option.some.inj H
      go_enter Try.func6, Try.ntmps6
      go_wp2_with (first | ((with_reducible refine gate_callee (f := 14) rfl ?_); refine goesL_ (some 7) rfl rfl Try.func14 (by kernel_rfl) rfl #[.string a0] rfl (by (try simp only [List.map_toArray, List.map_cons, List.map_nil]); first | done | rfl | (simp only [List.length_drop, List.length_take]; rfl)) ?_; (with_reducible refine (word_Lower.calls a0 t182 _ A3.out).mono ?_); rintro e w39 ⟨rfl, hb⟩; refine ⟨_, rfl, ?_⟩; have n0_ := Aside0.mk (below_step (by repeat (first | (with_reducible first | exact HB.out | apply below_alloc | apply pw_below_drewN | apply below_drew1) | exact HB.out)) hb); clear HB; have HB := n0_; clear n0_; (try clear hb); (try clear hb2); (try clear hk); (try clear hi)) | ((with_reducible refine gate_callee (f := 14) rfl ?_); refine goesL_ (some 9) rfl rfl Try.func14 (by kernel_rfl) rfl #[.string t182] rfl (by (try simp only [List.map_toArray, List.map_cons, List.map_nil]); first | done | rfl | (simp only [List.length_drop, List.length_take]; rfl)) ?_; (with_reducible refine (word_Lower.calls t182 t183 _ A4.out).mono ?_); rintro e w40 ⟨rfl, hb⟩; refine ⟨_, rfl, ?_⟩; have n0_ := Aside0.mk (below_step (by repeat (first | (with_reducible first | exact HB.out | apply below_alloc | apply pw_below_drewN | apply below_drew1) | exact HB.out)) hb); clear HB; have HB := n0_; clear n0_; (try clear hb); (try clear hb2); (try clear hk); (try clear hi)))
      go_ret
      exact ⟨by first | rfl | (simp [errW_none, errW_some] <;> rfl) | (simp [*, errW_none, errW_some] <;> rfl), by repeat (first | (with_reducible first | exact HB.out | apply below_alloc | apply pw_below_drewN | apply below_drew1) | exact HB.out)⟩
  · rw [if_neg c5] at H
    have c5b0 : (t183.toList == t182.toList) = false := beq_eq_false_iff_ne.mpr c5
    have c5b1 : (t183.toList != t182.toList) = true := bne_iff_ne.mpr c5
    obtain rfl := Option.some.inj H
    go_enter Try.func6, Try.ntmps6
    go_wp2_with (first | ((with_reducible refine gate_callee (f := 14) rfl ?_); refine goesL_ (some 7) rfl rfl Try.func14 (by kernel_rfl) rfl #[.string a0] rfl (by (try simp only [List.map_toArray, List.map_cons, List.map_nil]); first | done | rfl | (simp only [List.length_drop, List.length_take]; rfl)) ?_; (with_reducible refine (word_Lower.calls a0 t182 _ A3.out).mono ?_); rintro e w41 ⟨rfl, hb⟩; refine ⟨_, rfl, ?_⟩; have n0_ := Aside0.mk (below_step (by repeat (first | (with_reducible first | exact HB.out | apply below_alloc | apply pw_below_drewN | apply below_drew1) | exact HB.out)) hb); clear HB; have HB := n0_; clear n0_; (try clear hb); (try clear hb2); (try clear hk); (try clear hi)) | ((with_reducible refine gate_callee (f := 14) rfl ?_); refine goesL_ (some 9) rfl rfl Try.func14 (by kernel_rfl) rfl #[.string t182] rfl (by (try simp only [List.map_toArray, List.map_cons, List.map_nil]); first | done | rfl | (simp only [List.length_drop, List.length_take]; rfl)) ?_; (with_reducible refine (word_Lower.calls t182 t183 _ A4.out).mono ?_); rintro e w42 ⟨rfl, hb⟩; refine ⟨_, rfl, ?_⟩; have n0_ := Aside0.mk (below_step (by repeat (first | (with_reducible first | exact HB.out | apply below_alloc | apply pw_below_drewN | apply below_drew1) | exact HB.out)) hb); clear HB; have HB := n0_; clear n0_; (try clear hb); (try clear hb2); (try clear hk); (try clear hi)))
    go_ret
    exact ⟨by first | rfl | (simp [errW_none, errW_some] <;> rfl) | (simp [*, errW_none, errW_some] <;> rfl), by repeat (first | (with_reducible first | exact HB.out | apply below_alloc | apply pw_below_drewN | apply below_drew1) | exact HB.out)⟩

/-- THE ONE PURE STATEMENT of computuslaw05_WordSame: yours. -/
def computuslaw05_WordSame.Pure : Prop := ∀ (a0 : ByteArray) (a1 : ByteArray), a0.size ≤ 140737488351232 → a1.size ≤ 140737488351232 → ∃ k, computuslaw05_WordSame.f k a0 a1 = some true
theorem computuslaw05_WordSame.walk (P : computuslaw05_WordSame.Pure) (a0 : ByteArray) (a1 : ByteArray) (w : World) (w0 : a0.size ≤ 140737488351232) (w1 : a1.size ≤ 140737488351232) :
    Calls Try.prog 6 #[.string a0, .string a1] w fun e w' => e = .returned (.bool true) ∧ Below w.heap.size w w' := by
  obtain ⟨k, h⟩ := P a0 a1 w0 w1
  refine (computuslaw05_WordSame.calls k a0 a1 true w h).mono ?_
  rintro e w' ⟨rfl, hd⟩
  exact ⟨rfl, hd⟩

/-! ### word_Known: function 16 -/
/-- 'word.Known'. -/
def word_Known.f (a0 : ByteArray) (l1 : List ByteArray) : Option (Int) := if l1.length ≤ 9223372036854775807 then idxOpt (fun t => word_Same.f a0 t) l1 l1.length 0 else none
set_option maxHeartbeats 1000000 in
set_option maxRecDepth 100000 in
theorem word_Known.inner (a0 : ByteArray) (B : Nat) (w : World) (hB : B < w.heap.size) (hc : w.cell? ⟨B, 0, none⟩ = some (.string a0)) :
    PredOpt 35 #[.pointer (some ⟨B, 0, none⟩)] (fun t => word_Same.f a0 t) w := by
  intro W x b hb hp
  have hc' := (hb.cell (p := ⟨B, 0, none⟩) hB).trans hc
  have HC := Aside0.mk hc
  clear hc
  have HP := Aside0.mk hp
  clear hp
  have HB := Aside0.mk hb
  clear hb
  show Calls Try.prog 35 #[.string x, .pointer (some ⟨B, 0, none⟩)] W _
  go_enter Try.func35, Try.ntmps35
  go_wp2_with (go_at_call 15; refine (word_Same.calls _ _ _ _ HP.out).mono ?_; rintro e w' ⟨rfl, hb'⟩)
  go_ret
  exact ⟨rfl, below_step HB.out hb'⟩
set_option maxHeartbeats 1000000 in
set_option maxRecDepth 100000 in
theorem word_Known.calls (a0 : ByteArray) (A1 : Option Addr) (c1 : Nat) (l1 : List ByteArray) (r : Int) (w : World) (hr1 : Kd.C Kd.string w A1 l1.length l1) (hc1 : l1.length ≤ c1) (h : word_Known.f a0 l1 = some r) :
    Calls Try.prog 16 #[.string a0, .slice A1 l1.length c1] w fun e w' => e = .returned (.int .i64 r) ∧ Below w.heap.size w w' := by
  unfold word_Known.f at h
  split at h
  · rename_i hbig
    have HR := Aside0.mk hr1
    have HN := Aside0.mk hbig
    have H := Aside0.mk h
    clear hr1 h hbig
    have eg : ∀ args w, (callFunc 35 args).run Try.prog w = .ok (.enter 35 args) w := enters_of Try.func35 (by kernel_rfl) rfl
    have hba : ∀ o, Below w.heap.size w (w.alloc o) := fun o => (Below.refl _ w).alloc (Nat.le_refl _) o
    have HBA := Aside0.mk hba
    clear hba
    go_enter Try.func16, Try.ntmps16
    go_wp2_with (go_at_call 34; refine (slices_IndexFunc_string_string.calls _ 35 _ eg A1 c1 l1 r _ (word_Known.inner a0 w.heap.size _ (by simp) (by simp)) (Kd.C_below HR.out (HBA.out _)) HN.out H.out).mono ?_; rintro e w' ⟨rfl, hb'⟩)
    go_ret
    exact ⟨rfl, below_step (HBA.out _) hb'⟩
  · cases h


/-! ### computusref05_Lower: function 22 -/
def computusref05_Lower.l0 : Nat → ByteArray → List Int → Int → Option (ByteArray)
  | 0, _, _, _ => none
  | k + 1, x0, x3, x4 => if x4 < (x0.size : Int) then (if 0 ≤ x4 then (if (bt x0 x4) ≥ 65 then (if (bt x0 x4) ≤ 90 then (if x3.length < 140737488355328 then (computusref05_Lower.l0 k x0 (x3 ++ [((bt x0 x4) + 32) % 256]) (wrap64 (x4 + 1))) else (none)) else (if x3.length < 140737488355328 then (computusref05_Lower.l0 k x0 (x3 ++ [bt x0 x4]) (wrap64 (x4 + 1))) else (none))) else (if x3.length < 140737488355328 then (computusref05_Lower.l0 k x0 (x3 ++ [bt x0 x4]) (wrap64 (x4 + 1))) else (none))) else (none)) else (some (strOfNums x3))
def computusref05_Lower.f (k : Nat) (a0 : ByteArray) : Option (ByteArray) := computusref05_Lower.l0 k a0 ([] : List Int) 0
theorem computusref05_Lower.mono_l : ∀ k, (∀ y0 y1 y2, LeO (computusref05_Lower.l0 k y0 y1 y2) (computusref05_Lower.l0 (k + 1) y0 y1 y2))
  | 0 => fun _ _ _ r h => by simp [computusref05_Lower.l0] at h
  | k + 1 => by
    have ih0 := computusref05_Lower.mono_l k
    · intro y0 y1 y2
      unfold computusref05_Lower.l0
      repeat' first
      | (with_reducible exact ih0 _ _ _)
      | (with_reducible exact LeO.refl _)
      | (with_reducible exact LeO.none _)
      | (with_reducible refine LeO.ite ?_ ?_)
      | (with_reducible refine LeO.bind ?_ (fun _ => ?_))
      | exact ih0 _ _ _
      | exact LeO.none _
      | refine LeO.ite ?_ ?_
      | refine LeO.bind ?_ (fun _ => ?_)
theorem computusref05_Lower.mono : ∀ a0 k, LeO (computusref05_Lower.f k a0) (computusref05_Lower.f (k + 1) a0) := by
  intro a0 k
  have ih0 := computusref05_Lower.mono_l k
  unfold computusref05_Lower.f
  repeat' first
      | (with_reducible exact ih0 _ _ _)
      | (with_reducible exact LeO.refl _)
      | (with_reducible exact LeO.none _)
      | (with_reducible refine LeO.ite ?_ ?_)
      | (with_reducible refine LeO.bind ?_ (fun _ => ?_))
      | exact ih0 _ _ _
      | exact LeO.none _
      | refine LeO.ite ?_ ?_
      | refine LeO.bind ?_ (fun _ => ?_)
set_option maxHeartbeats 8000000 in
set_option maxRecDepth 100000 in
theorem computusref05_Lower.calls (k : Nat) (a0 : ByteArray) (r : ByteArray) (w : World) (h : computusref05_Lower.f k a0 = some r) :
    Calls Try.prog 22 #[.string a0] w fun e w' => e = .returned (.string r) ∧ Below w.heap.size w w' := by
  have HB := Aside0.mk (Below.refl w.heap.size w)
  have H : (computusref05_Lower.l0 k a0 ([] : List Int) 0) = some r := h
  clear h
  have H' := Aside0.mk H
  clear H
  go_enter Try.func22, Try.ntmps22
  go_wp2
  go_loopg [3, 4] k (fun kq v3 v4 w' => ∃ (x3_1 : List Int) (x4_1 : Int), v4 = .int .i64 x4_1 ∧ Aside0 (computusref05_Lower.l0 kq a0 x3_1 x4_1 = some r) ∧ Aside0 (kq ≤ k) ∧ Aside0 (Kd.R (Kd.int .u8) 5 w' w.heap.size (fun _ => True) v3 x3_1) ∧ Aside0 (Below w.heap.size w w'))
  case atStart => exact ⟨(([] : List Int)), (0), (by first | rfl | (simp; done) | (simp [*]; done)), H', ⟨Nat.le_refl _⟩, ⟨by first | exact Kd.R_nil _ _ _ _ _ | exact Kd.N_nil _ _ _ _ _ | exact Kd.V_nil _ _ _ _ _ | exact Kd.Q_nil _ _ _ _ _ | exact Kd.S_nil _ _ _ _ _⟩, ⟨by repeat (first | (with_reducible first | exact HB.out | apply below_alloc | apply pw_below_drewN | apply below_drew1) | exact HB.out)⟩⟩
  case round =>
    clear H'
    obtain ⟨x3_1, x4_1, rfl, HA, HK1, HO_3, HB⟩ := hrel
    cases gk with
    | zero => exact absurd HA.out (by simp [computusref05_Lower.l0])
    | succ k1 =>
      have H := HA.out
      clear HA
      simp only [computusref05_Lower.l0] at H
      by_cases c2 : x4_1 < (a0.size : Int)
      · rw [if_pos c2] at H
        have c2b0 : decide (x4_1 < (a0.size : Int)) = true := decide_eq_true c2
        clear c2
        by_cases c3 : 0 ≤ x4_1
        · rw [if_pos c3] at H
          have c3b0 : decide (0 ≤ x4_1) = true := decide_eq_true c3
          clear c3
          by_cases c5 : (bt a0 x4_1) ≥ 65
          · rw [if_pos c5] at H
            have c5b0 : decide (65 ≤ (bt a0 x4_1)) = true := decide_eq_true c5
            clear c5
            by_cases c6 : (bt a0 x4_1) ≤ 90
            · rw [if_pos c6] at H
              have c6b0 : decide ((bt a0 x4_1) ≤ 90) = true := decide_eq_true c6
              clear c6
              by_cases c7 : x3_1.length < 140737488355328
              · rw [if_pos c7] at H
                have LMc7 := Aside0.mk c7
                clear c7
                obtain ⟨y190, hy190⟩ : ∃ y_ : List Int, y_ = (x3_1 ++ [((bt a0 x4_1) + 32) % 256]) := ⟨_, rfl⟩
                replace H : (computusref05_Lower.l0 k1 a0 y190 (wrap64 (x4_1 + 1))) = some r := by first | (rw [hy190]; with_reducible exact H) | (have H2_ := (Option.bind_some _ _).symm.trans H; rw [hy190]; with_reducible exact H2_) | (have H2_ := (Option.bind_some _ _).symm.trans H; with_reducible exact H2_) | with_reducible exact H | (rw [hy190]; exact H) | exact H
                have Ny190 := Aside0.mk hy190
                clear hy190
                have H' := Aside0.mk H
                clear H
                have p4 : 0 ≤ (x4_1 : Int) := of_decide_eq_true (by first | (with_reducible assumption) | assumption)
                have q4 : x4_1 < (a0.size : Int) := of_decide_eq_true (by first | (with_reducible assumption) | assumption)
                have hx4 := bt_at a0 x4_1
                replace p4 := eq_true p4
                replace q4 := eq_true q4
                go_wp2_with (first | ((with_reducible refine gate_builtin (b := .append) (xs := #[.tmp 23, .tmp 25]) rfl ?_); at_builtin; refine Kd.R_append (Kd.int .u8) (w0 := w) w.heap.size rfl (.tmp 23) (.tmp 25) 48 5 (.int .u8 0) 1 rfl Try.underlying48 info5 rfl (by decide) (by omega) u3 x3_1 (((bt a0 x4_1) + 32) % 256) [.int .u8 (((bt a0 x4_1) + 32) % 256)] (fun _ => True) (fun _ => False) rfl rfl ?aP (fun _ hk => hk.elim) ?aF ?aO ?aB ?aS ?aL ?_; (case aP => exact rfl); (case aB => exact (by repeat (first | (with_reducible first | exact HB.out | apply below_alloc | apply pw_below_drewN | apply below_drew1) | exact HB.out))); (case aF => exact (fun _ _ => trivial)); (case aO => exact (by (with_reducible repeat (first | apply Kd.R_alloc | apply Kd.R_drewN | apply Kd.R_drew)); exact HO_3.out)); (case aS => exact (below_size (by repeat (first | (with_reducible first | exact HB.out | apply below_alloc | apply pw_below_drewN | apply below_drew1) | exact HB.out)))); (case aL => have := LMc7.out; omega); intro v191 w8 ho hb hg hat; rw [← Ny190.out] at ho; have n0_ := Aside0.mk (hb); have n1_ := Aside0.mk (ho); clear HB; clear HO_3; have HB := n0_; have HO192 := n1_; clear n0_ n1_; clear ho hb hg hat))
                go_roundg k1
                case measure => have := HK1.out; omega
                case rel => exact ⟨(y190), (wrap64 (x4_1 + 1)), (by first | rfl | (simp; done) | (simp [*]; done)), H', ⟨by have := HK1.out; omega⟩, ⟨by (with_reducible repeat (first | apply Kd.R_alloc | apply Kd.R_drewN | apply Kd.R_drew)); exact HO192.out⟩, ⟨by repeat (first | (with_reducible first | exact HB.out | apply below_alloc | apply pw_below_drewN | apply below_drew1) | exact HB.out)⟩⟩
              · rw [if_neg c7] at H
                exact absurd H (by simp)
            · rw [if_neg c6] at H
              have c6b0 : decide ((bt a0 x4_1) ≤ 90) = false := decide_eq_false c6
              clear c6
              by_cases c9 : x3_1.length < 140737488355328
              · rw [if_pos c9] at H
                have LMc9 := Aside0.mk c9
                clear c9
                obtain ⟨y193, hy193⟩ : ∃ y_ : List Int, y_ = (x3_1 ++ [bt a0 x4_1]) := ⟨_, rfl⟩
                replace H : (computusref05_Lower.l0 k1 a0 y193 (wrap64 (x4_1 + 1))) = some r := by first | (rw [hy193]; with_reducible exact H) | (have H2_ := (Option.bind_some _ _).symm.trans H; rw [hy193]; with_reducible exact H2_) | (have H2_ := (Option.bind_some _ _).symm.trans H; with_reducible exact H2_) | with_reducible exact H | (rw [hy193]; exact H) | exact H
                have Ny193 := Aside0.mk hy193
                clear hy193
                have H' := Aside0.mk H
                clear H
                have p4 : 0 ≤ (x4_1 : Int) := of_decide_eq_true (by first | (with_reducible assumption) | assumption)
                have q4 : x4_1 < (a0.size : Int) := of_decide_eq_true (by first | (with_reducible assumption) | assumption)
                have hx4 := bt_at a0 x4_1
                replace p4 := eq_true p4
                replace q4 := eq_true q4
                go_wp2_with (first | ((with_reducible refine gate_builtin (b := .append) (xs := #[.tmp 23, .tmp 25]) rfl ?_); at_builtin; refine Kd.R_append (Kd.int .u8) (w0 := w) w.heap.size rfl (.tmp 23) (.tmp 25) 48 5 (.int .u8 0) 1 rfl Try.underlying48 info5 rfl (by decide) (by omega) u3 x3_1 (bt a0 x4_1) [.int .u8 (bt a0 x4_1)] (fun _ => True) (fun _ => False) rfl rfl ?aP (fun _ hk => hk.elim) ?aF ?aO ?aB ?aS ?aL ?_; (case aP => exact rfl); (case aB => exact (by repeat (first | (with_reducible first | exact HB.out | apply below_alloc | apply pw_below_drewN | apply below_drew1) | exact HB.out))); (case aF => exact (fun _ _ => trivial)); (case aO => exact (by (with_reducible repeat (first | apply Kd.R_alloc | apply Kd.R_drewN | apply Kd.R_drew)); exact HO_3.out)); (case aS => exact (below_size (by repeat (first | (with_reducible first | exact HB.out | apply below_alloc | apply pw_below_drewN | apply below_drew1) | exact HB.out)))); (case aL => have := LMc9.out; omega); intro v194 w10 ho hb hg hat; rw [← Ny193.out] at ho; have n0_ := Aside0.mk (hb); have n1_ := Aside0.mk (ho); clear HB; clear HO_3; have HB := n0_; have HO195 := n1_; clear n0_ n1_; clear ho hb hg hat))
                go_roundg k1
                case measure => have := HK1.out; omega
                case rel => exact ⟨(y193), (wrap64 (x4_1 + 1)), (by first | rfl | (simp; done) | (simp [*]; done)), H', ⟨by have := HK1.out; omega⟩, ⟨by (with_reducible repeat (first | apply Kd.R_alloc | apply Kd.R_drewN | apply Kd.R_drew)); exact HO195.out⟩, ⟨by repeat (first | (with_reducible first | exact HB.out | apply below_alloc | apply pw_below_drewN | apply below_drew1) | exact HB.out)⟩⟩
              · rw [if_neg c9] at H
                exact absurd H (by simp)
          · rw [if_neg c5] at H
            have c5b0 : decide (65 ≤ (bt a0 x4_1)) = false := decide_eq_false c5
            clear c5
            by_cases c11 : x3_1.length < 140737488355328
            · rw [if_pos c11] at H
              have LMc11 := Aside0.mk c11
              clear c11
              obtain ⟨y196, hy196⟩ : ∃ y_ : List Int, y_ = (x3_1 ++ [bt a0 x4_1]) := ⟨_, rfl⟩
              replace H : (computusref05_Lower.l0 k1 a0 y196 (wrap64 (x4_1 + 1))) = some r := by first | (rw [hy196]; with_reducible exact H) | (have H2_ := (Option.bind_some _ _).symm.trans H; rw [hy196]; with_reducible exact H2_) | (have H2_ := (Option.bind_some _ _).symm.trans H; with_reducible exact H2_) | with_reducible exact H | (rw [hy196]; exact H) | exact H
              have Ny196 := Aside0.mk hy196
              clear hy196
              have H' := Aside0.mk H
              clear H
              have p4 : 0 ≤ (x4_1 : Int) := of_decide_eq_true (by first | (with_reducible assumption) | assumption)
              have q4 : x4_1 < (a0.size : Int) := of_decide_eq_true (by first | (with_reducible assumption) | assumption)
              have hx4 := bt_at a0 x4_1
              replace p4 := eq_true p4
              replace q4 := eq_true q4
              go_wp2_with (first | ((with_reducible refine gate_builtin (b := .append) (xs := #[.tmp 23, .tmp 25]) rfl ?_); at_builtin; refine Kd.R_append (Kd.int .u8) (w0 := w) w.heap.size rfl (.tmp 23) (.tmp 25) 48 5 (.int .u8 0) 1 rfl Try.underlying48 info5 rfl (by decide) (by omega) u3 x3_1 (bt a0 x4_1) [.int .u8 (bt a0 x4_1)] (fun _ => True) (fun _ => False) rfl rfl ?aP (fun _ hk => hk.elim) ?aF ?aO ?aB ?aS ?aL ?_; (case aP => exact rfl); (case aB => exact (by repeat (first | (with_reducible first | exact HB.out | apply below_alloc | apply pw_below_drewN | apply below_drew1) | exact HB.out))); (case aF => exact (fun _ _ => trivial)); (case aO => exact (by (with_reducible repeat (first | apply Kd.R_alloc | apply Kd.R_drewN | apply Kd.R_drew)); exact HO_3.out)); (case aS => exact (below_size (by repeat (first | (with_reducible first | exact HB.out | apply below_alloc | apply pw_below_drewN | apply below_drew1) | exact HB.out)))); (case aL => have := LMc11.out; omega); intro v197 w12 ho hb hg hat; rw [← Ny196.out] at ho; have n0_ := Aside0.mk (hb); have n1_ := Aside0.mk (ho); clear HB; clear HO_3; have HB := n0_; have HO198 := n1_; clear n0_ n1_; clear ho hb hg hat))
              go_roundg k1
              case measure => have := HK1.out; omega
              case rel => exact ⟨(y196), (wrap64 (x4_1 + 1)), (by first | rfl | (simp; done) | (simp [*]; done)), H', ⟨by have := HK1.out; omega⟩, ⟨by (with_reducible repeat (first | apply Kd.R_alloc | apply Kd.R_drewN | apply Kd.R_drew)); exact HO198.out⟩, ⟨by repeat (first | (with_reducible first | exact HB.out | apply below_alloc | apply pw_below_drewN | apply below_drew1) | exact HB.out)⟩⟩
            · rw [if_neg c11] at H
              exact absurd H (by simp)
        · rw [if_neg c3] at H
          exact absurd H (by simp)
      · rw [if_neg c2] at H
        have c2b0 : decide (x4_1 < (a0.size : Int)) = false := decide_eq_false c2
        clear c2
        obtain rfl := Option.some.inj H
        have hcv13 := own_string (P := Try.prog) Try.underlying48 Try.underlying5 Try.underlying9 (Kd.own_of_R HO_3.out)
        go_wp2
        go_ret
        exact ⟨by first | rfl | (simp [errW_none, errW_some] <;> rfl) | (simp [*, errW_none, errW_some] <;> rfl), by repeat (first | (with_reducible first | exact HB.out | apply below_alloc | apply pw_below_drewN | apply below_drew1) | exact HB.out)⟩

/-! ### computusref05_Same: function 23 -/
def computusref05_Same.f (k : Nat) (a0 : ByteArray) (a1 : ByteArray) : Option (Bool) := (computusref05_Lower.f k a0).bind fun t199 => ((computusref05_Lower.f k a1).bind fun t200 => (some (t199.toList == t200.toList)))
theorem computusref05_Same.mono : ∀ a0 a1 k, LeO (computusref05_Same.f k a0 a1) (computusref05_Same.f (k + 1) a0 a1) := by
  intro a0 a1 k
  unfold computusref05_Same.f
  repeat' first
      | (with_reducible exact computusref05_Lower.mono _ _)
      | (with_reducible exact LeO.refl _)
      | (with_reducible exact LeO.none _)
      | (with_reducible refine LeO.ite ?_ ?_)
      | (with_reducible refine LeO.bind ?_ (fun _ => ?_))
      | exact computusref05_Lower.mono _ _
      | exact LeO.none _
      | refine LeO.ite ?_ ?_
      | refine LeO.bind ?_ (fun _ => ?_)
set_option maxHeartbeats 8000000 in
set_option maxRecDepth 100000 in
theorem computusref05_Same.calls (k : Nat) (a0 : ByteArray) (a1 : ByteArray) (r : Bool) (w : World) (h : computusref05_Same.f k a0 a1 = some r) :
    Calls Try.prog 23 #[.string a0, .string a1] w fun e w' => e = .returned (.bool r) ∧ Below w.heap.size w w' := by
  have HB := Aside0.mk (Below.refl w.heap.size w)
  have H : ((computusref05_Lower.f k a0).bind fun t199 => ((computusref05_Lower.f k a1).bind fun t200 => (some (t199.toList == t200.toList)))) = some r := h
  clear h
  replace H := Option.bind_eq_some_iff.mp H
  obtain ⟨t199, A30, H⟩ := H
  replace H : ((computusref05_Lower.f k a1).bind fun t200 => (some (t199.toList == t200.toList))) = some r := H
  have A3 := Aside0.mk A30
  clear A30
  replace H := Option.bind_eq_some_iff.mp H
  obtain ⟨t200, A40, H⟩ := H
  replace H : (some (t199.toList == t200.toList)) = some r := H
  have A4 := Aside0.mk A40
  clear A40
  obtain rfl := Option.some.inj H
  go_enter Try.func23, Try.ntmps23
  go_wp2_with (first | ((with_reducible refine gate_callee (f := 22) rfl ?_); refine goesL_ (some 6) rfl rfl Try.func22 (by kernel_rfl) rfl #[.string a0] rfl (by (try simp only [List.map_toArray, List.map_cons, List.map_nil]); first | done | rfl | (simp only [List.length_drop, List.length_take]; rfl)) ?_; (with_reducible refine (computusref05_Lower.calls k a0 t199 _ A3.out).mono ?_); rintro e w5 ⟨rfl, hb⟩; refine ⟨_, rfl, ?_⟩; have n0_ := Aside0.mk (below_step (by repeat (first | (with_reducible first | exact HB.out | apply below_alloc | apply pw_below_drewN | apply below_drew1) | exact HB.out)) hb); clear HB; have HB := n0_; clear n0_; (try clear hb); (try clear hb2); (try clear hk); (try clear hi)) | ((with_reducible refine gate_callee (f := 22) rfl ?_); refine goesL_ (some 8) rfl rfl Try.func22 (by kernel_rfl) rfl #[.string a1] rfl (by (try simp only [List.map_toArray, List.map_cons, List.map_nil]); first | done | rfl | (simp only [List.length_drop, List.length_take]; rfl)) ?_; (with_reducible refine (computusref05_Lower.calls k a1 t200 _ A4.out).mono ?_); rintro e w6 ⟨rfl, hb⟩; refine ⟨_, rfl, ?_⟩; have n0_ := Aside0.mk (below_step (by repeat (first | (with_reducible first | exact HB.out | apply below_alloc | apply pw_below_drewN | apply below_drew1) | exact HB.out)) hb); clear HB; have HB := n0_; clear n0_; (try clear hb); (try clear hb2); (try clear hk); (try clear hi)))
  go_ret
  exact ⟨by first | rfl | (simp [errW_none, errW_some] <;> rfl) | (simp [*, errW_none, errW_some] <;> rfl), by repeat (first | (with_reducible first | exact HB.out | apply below_alloc | apply pw_below_drewN | apply below_drew1) | exact HB.out)⟩

/-! ### computusref05_Known: function 17 -/
def computusref05_Known.l0 : Nat → ByteArray → List ByteArray → Int → Option (Int)
  | 0, _, _, _ => none
  | k + 1, x0, x1, x5 => if x5 < (x1.length : Int) then (if 0 ≤ x5 then ((computusref05_Same.f k x0 (rdOf ByteArray.empty x1 x5)).bind fun t202 => (if t202 = true then (some x5) else (computusref05_Known.l0 k x0 x1 (wrap64 (x5 + 1))))) else (none)) else (some (-1))
def computusref05_Known.f (k : Nat) (a0 : ByteArray) (l1 : List ByteArray) : Option (Int) := computusref05_Known.l0 k a0 l1 0
theorem computusref05_Known.mono_l : ∀ k, (∀ y0 y1 y2, LeO (computusref05_Known.l0 k y0 y1 y2) (computusref05_Known.l0 (k + 1) y0 y1 y2))
  | 0 => fun _ _ _ r h => by simp [computusref05_Known.l0] at h
  | k + 1 => by
    have ih0 := computusref05_Known.mono_l k
    · intro y0 y1 y2
      unfold computusref05_Known.l0
      repeat' first
      | (with_reducible exact ih0 _ _ _)
      | (with_reducible exact computusref05_Same.mono _ _ _)
      | (with_reducible exact LeO.refl _)
      | (with_reducible exact LeO.none _)
      | (with_reducible refine LeO.ite ?_ ?_)
      | (with_reducible refine LeO.bind ?_ (fun _ => ?_))
      | exact ih0 _ _ _
      | exact computusref05_Same.mono _ _ _
      | exact LeO.none _
      | refine LeO.ite ?_ ?_
      | refine LeO.bind ?_ (fun _ => ?_)
theorem computusref05_Known.mono : ∀ a0 a1 k, LeO (computusref05_Known.f k a0 a1) (computusref05_Known.f (k + 1) a0 a1) := by
  intro a0 a1 k
  have ih0 := computusref05_Known.mono_l k
  unfold computusref05_Known.f
  repeat' first
      | (with_reducible exact ih0 _ _ _)
      | (with_reducible exact computusref05_Same.mono _ _ _)
      | (with_reducible exact LeO.refl _)
      | (with_reducible exact LeO.none _)
      | (with_reducible refine LeO.ite ?_ ?_)
      | (with_reducible refine LeO.bind ?_ (fun _ => ?_))
      | exact ih0 _ _ _
      | exact computusref05_Same.mono _ _ _
      | exact LeO.none _
      | refine LeO.ite ?_ ?_
      | refine LeO.bind ?_ (fun _ => ?_)
set_option maxHeartbeats 8000000 in
set_option maxRecDepth 100000 in
theorem computusref05_Known.calls (k : Nat) (a0 : ByteArray) (A1 : Option Addr) (c1 : Nat) (l1 : List ByteArray) (r : Int) (w : World) (hr1 : Kd.C Kd.string w A1 l1.length l1) (hc1 : l1.length ≤ c1) (h : computusref05_Known.f k a0 l1 = some r) :
    Calls Try.prog 17 #[.string a0, .slice A1 l1.length c1] w fun e w' => e = .returned (.int .i64 r) ∧ Below w.heap.size w w' := by
  have HR1 := Aside0.mk hr1
  have HC1 := Aside0.mk hc1
  clear hr1 hc1
  have HB := Aside0.mk (Below.refl w.heap.size w)
  have H : (computusref05_Known.l0 k a0 l1 0) = some r := h
  clear h
  have H' := Aside0.mk H
  clear H
  go_enter Try.func17, Try.ntmps17
  go_wp2
  go_loopg [5] k (fun kq v5 w' => ∃ (x5_1 : Int), v5 = .int .i64 x5_1 ∧ Aside0 (computusref05_Known.l0 kq a0 l1 x5_1 = some r) ∧ Aside0 (kq ≤ k) ∧ Aside0 (Below w.heap.size w w'))
  case atStart => exact ⟨(0), (by first | rfl | (simp; done) | (simp [*]; done)), H', ⟨Nat.le_refl _⟩, ⟨by repeat (first | (with_reducible first | exact HB.out | apply below_alloc | apply pw_below_drewN | apply below_drew1) | exact HB.out)⟩⟩
  case round =>
    clear H'
    try clear c1
    try clear p2
    obtain ⟨x5_1, rfl, HA, HK1, HB⟩ := hrel
    cases gk with
    | zero => exact absurd HA.out (by simp [computusref05_Known.l0])
    | succ k1 =>
      have H := HA.out
      clear HA
      simp only [computusref05_Known.l0] at H
      by_cases c3 : x5_1 < (l1.length : Int)
      · rw [if_pos c3] at H
        have c3b0 : decide (x5_1 < (l1.length : Int)) = true := decide_eq_true c3
        clear c3
        by_cases c4 : 0 ≤ x5_1
        · rw [if_pos c4] at H
          have c4b0 : decide (0 ≤ x5_1) = true := decide_eq_true c4
          clear c4
          replace H := Option.bind_eq_some_iff.mp H
          obtain ⟨t202, A50, H⟩ := H
          replace H : (if t202 = true then (some x5_1) else (computusref05_Known.l0 k1 a0 l1 (wrap64 (x5_1 + 1)))) = some r := H
          have A5 := Aside0.mk A50
          clear A50
          by_cases c6 : t202 = true
          · subst c6
            have H1 : (some x5_1) = some r := by rw [if_pos rfl] at H; exact H
            clear H
            have H := H1
            clear H1
            obtain rfl := Option.some.inj H
            have p201 : 0 ≤ (x5_1 : Int) := of_decide_eq_true (by first | (with_reducible assumption) | assumption)
            have q201 : x5_1 < (l1.length : Int) := of_decide_eq_true (by first | (with_reducible assumption) | assumption)
            obtain ⟨ad201, e201, hx201_0⟩ := Kd.at_string HR1.out x5_1 p201 q201
            cases e201
            replace hx201_0 := (HB.out.cell (World.block_lt_of_cell? w _ hx201_0)).trans hx201_0
            replace p201 := eq_true p201
            replace q201 := eq_true q201
            go_wp2_with (first | ((with_reducible refine gate_callee (f := 23) rfl ?_); refine goesL_ (some 17) rfl rfl Try.func23 (by kernel_rfl) rfl #[.string a0, .string (rdOf ByteArray.empty l1 x5_1)] rfl (by (try simp only [List.map_toArray, List.map_cons, List.map_nil]); first | done | rfl | (simp only [List.length_drop, List.length_take]; rfl)) ?_; (with_reducible refine (computusref05_Same.calls k1 a0 (rdOf ByteArray.empty l1 x5_1) true _ A5.out).mono ?_); rintro e w7 ⟨rfl, hb⟩; refine ⟨_, rfl, ?_⟩; have n0_ := Aside0.mk (below_step (by repeat (first | (with_reducible first | exact HB.out | apply below_alloc | apply pw_below_drewN | apply below_drew1) | exact HB.out)) hb); clear HB; have HB := n0_; clear n0_; (try clear hb); (try clear hb2); (try clear hk); (try clear hi)))
            go_ret
            exact ⟨by first | rfl | (simp [errW_none, errW_some] <;> rfl) | (simp [*, errW_none, errW_some] <;> rfl), by repeat (first | (with_reducible first | exact HB.out | apply below_alloc | apply pw_below_drewN | apply below_drew1) | exact HB.out)⟩
          · replace c6 := Bool.eq_false_iff.mpr c6
            subst c6
            have H1 : (computusref05_Known.l0 k1 a0 l1 (wrap64 (x5_1 + 1))) = some r := by rw [if_neg (show ¬ (false = true) by decide)] at H; exact H
            clear H
            have H := H1
            clear H1
            have H' := Aside0.mk H
            clear H
            have p201 : 0 ≤ (x5_1 : Int) := of_decide_eq_true (by first | (with_reducible assumption) | assumption)
            have q201 : x5_1 < (l1.length : Int) := of_decide_eq_true (by first | (with_reducible assumption) | assumption)
            obtain ⟨ad201, e201, hx201_0⟩ := Kd.at_string HR1.out x5_1 p201 q201
            cases e201
            replace hx201_0 := (HB.out.cell (World.block_lt_of_cell? w _ hx201_0)).trans hx201_0
            replace p201 := eq_true p201
            replace q201 := eq_true q201
            go_wp2_with (first | ((with_reducible refine gate_callee (f := 23) rfl ?_); refine goesL_ (some 17) rfl rfl Try.func23 (by kernel_rfl) rfl #[.string a0, .string (rdOf ByteArray.empty l1 x5_1)] rfl (by (try simp only [List.map_toArray, List.map_cons, List.map_nil]); first | done | rfl | (simp only [List.length_drop, List.length_take]; rfl)) ?_; (with_reducible refine (computusref05_Same.calls k1 a0 (rdOf ByteArray.empty l1 x5_1) false _ A5.out).mono ?_); rintro e w8 ⟨rfl, hb⟩; refine ⟨_, rfl, ?_⟩; have n0_ := Aside0.mk (below_step (by repeat (first | (with_reducible first | exact HB.out | apply below_alloc | apply pw_below_drewN | apply below_drew1) | exact HB.out)) hb); clear HB; have HB := n0_; clear n0_; (try clear hb); (try clear hb2); (try clear hk); (try clear hi)))
            go_roundg k1
            case measure => have := HK1.out; omega
            case rel => exact ⟨(wrap64 (x5_1 + 1)), (by first | rfl | (simp; done) | (simp [*]; done)), H', ⟨by have := HK1.out; omega⟩, ⟨by repeat (first | (with_reducible first | exact HB.out | apply below_alloc | apply pw_below_drewN | apply below_drew1) | exact HB.out)⟩⟩
        · rw [if_neg c4] at H
          exact absurd H (by simp)
      · rw [if_neg c3] at H
        have c3b0 : decide (x5_1 < (l1.length : Int)) = false := decide_eq_false c3
        clear c3
        obtain rfl := Option.some.inj H
        go_wp2
        go_ret
        exact ⟨by first | rfl | (simp [errW_none, errW_some] <;> rfl) | (simp [*, errW_none, errW_some] <;> rfl), by repeat (first | (with_reducible first | exact HB.out | apply below_alloc | apply pw_below_drewN | apply below_drew1) | exact HB.out)⟩

end Go.Proofs.Ytlpbjpkjmagodaa.PWord
