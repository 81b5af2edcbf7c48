/- What the claim of CardKindFinds needs, out of the session's texts, in their order. -/
import Derived.Test.YtfgogfdbjbnlbaaDoorKuB
import Derived.Test.YtfgogfdbjbnlbaaDoorProg
import Derived.Shelf.Abstract
import Derived.Lib.OthersKept
import Derived.Outline
section
namespace Go.Proofs.YtfgogfdbjbnlbaaDoor.PExpr
open Go.RowKit Go.Proofs.YtfgogfdbjbnlbaaDoorW.PrintWords Go.Proofs.YtfgogfdbjbnlbaaDoorW.PrintLast Go.Proofs.YtfgogfdbjbnlbaaDoorW.PrintMore
attribute [local go_sem] max2_int min2_int max_two min_two max_three min_three max_four min_four   -- for this text's walks alone
set_option linter.unusedVariables false
set_option linter.unusedSimpArgs false
def errW : Option Int → Value
  | none => .nilIface
  | some c => .iface 0 (.int .i64 c)
theorem errW_none : errW none = .nilIface := rfl
theorem errW_some (c : Int) : errW (some c) = .iface 0 (.int .i64 c) := rfl
theorem info3 : (Tryd.prog.info? 3).map (fun i => (i.zero, i.size, i.bytes)) = some (some (.int .i64 0), 1, 8) := by kernel_rfl
theorem info9 : (Tryd.prog.info? 9).map (fun i => (i.zero, i.size, i.bytes)) = some (some (.string ⟨#[]⟩), 1, 16) := by kernel_rfl
theorem info27 : (Tryd.prog.info? 27).map (fun i => (i.zero, i.size, i.bytes)) = some (some (.agg #[(.string ⟨#[]⟩), (.slice none 0 0), (.int .i64 0)]), 3, 48) := by kernel_rfl
theorem info109 : (Tryd.prog.info? 109).map (fun i => (i.zero, i.size, i.bytes)) = some (some (.agg #[(.int .i64 0), (.string ⟨#[]⟩), (.int .i64 0)]), 3, 32) := by kernel_rfl
structure S27 where
  f0 : ByteArray
  f1 : (List Int)
  f2 : Int
def z27 : S27 := ⟨(⟨#[]⟩ : ByteArray), ([] : List Int), (0 : Int)⟩
def k27 : Kd S27 := Kd.iso (Kd.pair Kd.string (Kd.pair (Kd.slice 3 (Kd.int .i64)) (Kd.int .i64))) (fun x : S27 => (x.f0, x.f1, x.f2))
theorem k27_open {w : World} {x : S27} {cs : List Value} (h : k27.K w x cs) : ∃ A1 c1, cs = [.string x.f0, .slice A1 x.f1.length c1, .int .i64 x.f2] ∧ x.f1.length ≤ c1 ∧ (Kd.int .i64).C w A1 x.f1.length x.f1 := by
  obtain ⟨_, _, rfl, rfl, ⟨_, _, rfl, ⟨A1, c1, rfl, l1, g1⟩, rfl⟩⟩ := h
  exact ⟨A1, c1, rfl, l1, g1⟩
theorem k27_openM {w : World} {base : Nat} {ok : Nat → Prop} {x : S27} {cs : List Value} (h : k27.M w base ok x cs) : ∃ v1, cs = [.string x.f0, v1, .int .i64 x.f2] ∧ (Kd.int .i64).R 3 w base ok v1 x.f1 := by
  obtain ⟨_, _, rfl, rfl, ⟨_, _, rfl, ⟨v1, rfl, g1⟩, rfl⟩⟩ := h
  exact ⟨v1, rfl, g1⟩
theorem k27_mkM (w : World) (base : Nat) (ok : Nat → Prop) (x : S27) {v1 : Value} (g1 : (Kd.int .i64).R 3 w base ok v1 x.f1) : k27.M w base ok x [.string x.f0, v1, .int .i64 x.f2] := ⟨[.string x.f0], [v1, .int .i64 x.f2], rfl, rfl, ⟨[v1], [.int .i64 x.f2], rfl, ⟨v1, rfl, g1⟩, rfl⟩⟩
def rd_T27 (xs : List S27) (i : Int) : S27 := xs.getD i.toNat z27
theorem at_T27 {w : World} {A : Option Addr} {n : Nat} {xs : List S27} (h : Kd.C k27 w A n xs) (i : Int) (h0 : 0 ≤ i) (h1 : i < n) : ∃ ad A1 c1, A = some ad ∧ w.cell? (ad.add (i.toNat * 3)) = some (.string (rd_T27 xs i).f0) ∧ w.cell? ⟨(ad.add (i.toNat * 3)).block, (ad.add (i.toNat * 3)).off + 1, none⟩ = some (.slice A1 (rd_T27 xs i).f1.length c1) ∧ w.cell? ⟨(ad.add (i.toNat * 3)).block, (ad.add (i.toNat * 3)).off + 2, none⟩ = some (.int .i64 (rd_T27 xs i).f2) ∧ (rd_T27 xs i).f1.length ≤ c1 ∧ (Kd.int .i64).C w A1 (rd_T27 xs i).f1.length (rd_T27 xs i).f1 := by
  obtain ⟨ad, c, e, _, hK, hc0⟩ := Kd.C_get h z27 i h0 h1
  have hc : ∀ j u, c[j]? = some u → w.cell? (ad.add (i.toNat * 3 + j)) = some u := hc0
  obtain ⟨A1, c1, rfl, l1, g1⟩ := k27_open hK
  exact ⟨ad, A1, c1, e, hc 0 _ rfl, by rw [← add_field _ _ 1 (by omega)]; exact hc 1 _ rfl, by rw [← add_field _ _ 2 (by omega)]; exact hc 2 _ rfl, l1, g1⟩
structure S109 where
  f0 : Int
  f1 : ByteArray
  f2 : Int
def z109 : S109 := ⟨(0 : Int), (⟨#[]⟩ : ByteArray), (0 : Int)⟩
def k109 : Kd S109 := Kd.iso (Kd.pair (Kd.int .i64) (Kd.pair Kd.string (Kd.int .i64))) (fun x : S109 => (x.f0, x.f1, x.f2))
theorem k109_open {w : World} {x : S109} {cs : List Value} (h : k109.K w x cs) : cs = [.int .i64 x.f0, .string x.f1, .int .i64 x.f2] := by
  obtain ⟨_, _, rfl, rfl, ⟨_, _, rfl, rfl, rfl⟩⟩ := h
  exact rfl
theorem k109_mk (w : World) (x : S109)  : k109.K w x [.int .i64 x.f0, .string x.f1, .int .i64 x.f2] := ⟨[.int .i64 x.f0], [.string x.f1, .int .i64 x.f2], rfl, rfl, ⟨[.string x.f1], [.int .i64 x.f2], rfl, rfl, rfl⟩⟩
theorem k109_mkM (w : World) (base : Nat) (ok : Nat → Prop) (x : S109)  : k109.M w base ok x [.int .i64 x.f0, .string x.f1, .int .i64 x.f2] := ⟨[.int .i64 x.f0], [.string x.f1, .int .i64 x.f2], rfl, rfl, ⟨[.string x.f1], [.int .i64 x.f2], rfl, rfl, rfl⟩⟩
def rd_T109 (xs : List S109) (i : Int) : S109 := xs.getD i.toNat z109
theorem at_T109 {w : World} {A : Option Addr} {n : Nat} {xs : List S109} (h : Kd.C k109 w A n xs) (i : Int) (h0 : 0 ≤ i) (h1 : i < n) : ∃ ad , A = some ad ∧ w.cell? (ad.add (i.toNat * 3)) = some (.int .i64 (rd_T109 xs i).f0) ∧ w.cell? ⟨(ad.add (i.toNat * 3)).block, (ad.add (i.toNat * 3)).off + 1, none⟩ = some (.string (rd_T109 xs i).f1) ∧ w.cell? ⟨(ad.add (i.toNat * 3)).block, (ad.add (i.toNat * 3)).off + 2, none⟩ = some (.int .i64 (rd_T109 xs i).f2) := by
  obtain ⟨ad, c, e, _, hK, hc0⟩ := Kd.C_get h z109 i h0 h1
  have hc : ∀ j u, c[j]? = some u → w.cell? (ad.add (i.toNat * 3 + j)) = some u := hc0
  obtain rfl := k109_open hK
  exact ⟨ad, e, hc 0 _ rfl, by rw [← add_field _ _ 1 (by omega)]; exact hc 1 _ rfl, by rw [← add_field _ _ 2 (by omega)]; exact hc 2 _ rfl⟩
structure S87 where
  f0 : Int
  f1 : ByteArray
  f2 : Int
def z87 : S87 := ⟨(0 : Int), (⟨#[]⟩ : ByteArray), (0 : Int)⟩
def k87 : Kd S87 := Kd.iso (Kd.pair (Kd.int .i64) (Kd.pair Kd.string (Kd.int .i64))) (fun x : S87 => (x.f0, x.f1, x.f2))
theorem k87_open {w : World} {x : S87} {cs : List Value} (h : k87.K w x cs) : cs = [.int .i64 x.f0, .string x.f1, .int .i64 x.f2] := by
  obtain ⟨_, _, rfl, rfl, ⟨_, _, rfl, rfl, rfl⟩⟩ := h
  exact rfl
theorem k87_mk (w : World) (x : S87)  : k87.K w x [.int .i64 x.f0, .string x.f1, .int .i64 x.f2] := ⟨[.int .i64 x.f0], [.string x.f1, .int .i64 x.f2], rfl, rfl, ⟨[.string x.f1], [.int .i64 x.f2], rfl, rfl, rfl⟩⟩
def rd_T87 (xs : List S87) (i : Int) : S87 := xs.getD i.toNat z87
theorem at_T87 {w : World} {A : Option Addr} {n : Nat} {xs : List S87} (h : Kd.C k87 w A n xs) (i : Int) (h0 : 0 ≤ i) (h1 : i < n) : ∃ ad , A = some ad ∧ w.cell? (ad.add (i.toNat * 3)) = some (.int .i64 (rd_T87 xs i).f0) ∧ w.cell? ⟨(ad.add (i.toNat * 3)).block, (ad.add (i.toNat * 3)).off + 1, none⟩ = some (.string (rd_T87 xs i).f1) ∧ w.cell? ⟨(ad.add (i.toNat * 3)).block, (ad.add (i.toNat * 3)).off + 2, none⟩ = some (.int .i64 (rd_T87 xs i).f2) := by
  obtain ⟨ad, c, e, _, hK, hc0⟩ := Kd.C_get h z87 i h0 h1
  have hc : ∀ j u, c[j]? = some u → w.cell? (ad.add (i.toNat * 3 + j)) = some u := hc0
  obtain rfl := k87_open hK
  exact ⟨ad, e, hc 0 _ rfl, by rw [← add_field _ _ 1 (by omega)]; exact hc 1 _ rfl, by rw [← add_field _ _ 2 (by omega)]; exact hc 2 _ rfl⟩
structure S58 where
  f0 : Int
  f1 : ByteArray
  f2 : (List S58)
  f3 : Int
def z58 : S58 := ⟨(0 : Int), (⟨#[]⟩ : ByteArray), ([] : List S58), (0 : Int)⟩
def F58 (d : Kd S58) : Kd S58 := Kd.iso (Kd.pair (Kd.int .i64) (Kd.pair Kd.string (Kd.pair (Kd.slice 58 d) (Kd.int .i64)))) (fun x : S58 => (x.f0, x.f1, x.f2, x.f3))
theorem mono58 : Kd.Mono F58 := Kd.mono_iso _ (Kd.mono_pair (Kd.mono_const _) (Kd.mono_pair (Kd.mono_const _) (Kd.mono_pair (Kd.mono_slice 58 Kd.mono_id) (Kd.mono_const _))))
theorem sub58 : Kd.Sub F58 [58] := Kd.sub_iso _ (Kd.sub_pair (Kd.sub_const _ (by decide)) (Kd.sub_pair (Kd.sub_const _ (by decide)) (Kd.sub_pair (Kd.sub_slice 58 (by decide) Kd.sub_id) (Kd.sub_const _ (by decide)))))
theorem sz58 : ∀ n, (Kd.upto F58 4 [58] n).sz = 4 := Kd.upto_sz (fun _ => rfl)
def k58 : Kd S58 := Kd.fix F58 4 [58] sz58 (Kd.upto_E sub58)
theorem k58_open {w : World} {x : S58} {cs : List Value} (h : k58.K w x cs) : ∃ A2 c2, cs = [.int .i64 x.f0, .string x.f1, .slice A2 x.f2.length c2, .int .i64 x.f3] ∧ x.f2.length ≤ c2 ∧ k58.C w A2 x.f2.length x.f2 := by
  obtain ⟨n, h⟩ := h
  cases n with
  | zero => exact h.elim
  | succ n =>
    obtain ⟨_, _, rfl, rfl, ⟨_, _, rfl, rfl, ⟨_, _, rfl, ⟨A2, c2, rfl, l2, g2⟩, rfl⟩⟩⟩ := h
    exact ⟨A2, c2, rfl, l2, Kd.fix_C g2⟩
theorem k58_mkM (w : World) (base : Nat) (ok : Nat → Prop) (x : S58) {v2 : Value} (g2 : k58.R 58 w base ok v2 x.f2) : k58.M w base ok x [.int .i64 x.f0, .string x.f1, v2, .int .i64 x.f3] := by
  obtain ⟨n2, q2⟩ := Kd.fix_R_back mono58 g2
  have r2 := Kd.upto_R_le mono58 sz58 (show n2 ≤ n2 by omega) q2
  exact ⟨n2 + 1, ⟨[.int .i64 x.f0], [.string x.f1, v2, .int .i64 x.f3], rfl, rfl, ⟨[.string x.f1], [v2, .int .i64 x.f3], rfl, rfl, ⟨[v2], [.int .i64 x.f3], rfl, ⟨v2, rfl, r2⟩, rfl⟩⟩⟩⟩
def rd_T58 (xs : List S58) (i : Int) : S58 := xs.getD i.toNat z58
theorem at_T58 {w : World} {A : Option Addr} {n : Nat} {xs : List S58} (h : Kd.C k58 w A n xs) (i : Int) (h0 : 0 ≤ i) (h1 : i < n) : ∃ ad A2 c2, A = some ad ∧ w.cell? (ad.add (i.toNat * 4)) = some (.int .i64 (rd_T58 xs i).f0) ∧ w.cell? ⟨(ad.add (i.toNat * 4)).block, (ad.add (i.toNat * 4)).off + 1, none⟩ = some (.string (rd_T58 xs i).f1) ∧ w.cell? ⟨(ad.add (i.toNat * 4)).block, (ad.add (i.toNat * 4)).off + 2, none⟩ = some (.slice A2 (rd_T58 xs i).f2.length c2) ∧ w.cell? ⟨(ad.add (i.toNat * 4)).block, (ad.add (i.toNat * 4)).off + 3, none⟩ = some (.int .i64 (rd_T58 xs i).f3) ∧ (rd_T58 xs i).f2.length ≤ c2 ∧ k58.C w A2 (rd_T58 xs i).f2.length (rd_T58 xs i).f2 := by
  obtain ⟨ad, c, e, _, hK, hc0⟩ := Kd.C_get h z58 i h0 h1
  have hc : ∀ j u, c[j]? = some u → w.cell? (ad.add (i.toNat * 4 + j)) = some u := hc0
  obtain ⟨A2, c2, rfl, l2, g2⟩ := k58_open hK
  exact ⟨ad, A2, c2, e, hc 0 _ rfl, by rw [← add_field _ _ 1 (by omega)]; exact hc 1 _ rfl, by rw [← add_field _ _ 2 (by omega)]; exact hc 2 _ rfl, by rw [← add_field _ _ 3 (by omega)]; exact hc 3 _ rfl, l2, g2⟩
structure S50 where
  f0 : ByteArray
  f1 : ByteArray
def z50 : S50 := ⟨(⟨#[]⟩ : ByteArray), (⟨#[]⟩ : ByteArray)⟩
def k50 : Kd S50 := Kd.iso (Kd.pair Kd.string Kd.string) (fun x : S50 => (x.f0, x.f1))
theorem k50_open {w : World} {x : S50} {cs : List Value} (h : k50.K w x cs) : cs = [.string x.f0, .string x.f1] := by
  obtain ⟨_, _, rfl, rfl, rfl⟩ := h
  exact rfl
theorem k50_mkM (w : World) (base : Nat) (ok : Nat → Prop) (x : S50)  : k50.M w base ok x [.string x.f0, .string x.f1] := ⟨[.string x.f0], [.string x.f1], rfl, rfl, rfl⟩
def rd_T50 (xs : List S50) (i : Int) : S50 := xs.getD i.toNat z50
theorem at_T50 {w : World} {A : Option Addr} {n : Nat} {xs : List S50} (h : Kd.C k50 w A n xs) (i : Int) (h0 : 0 ≤ i) (h1 : i < n) : ∃ ad , A = some ad ∧ w.cell? (ad.add (i.toNat * 2)) = some (.string (rd_T50 xs i).f0) ∧ w.cell? ⟨(ad.add (i.toNat * 2)).block, (ad.add (i.toNat * 2)).off + 1, none⟩ = some (.string (rd_T50 xs i).f1) := by
  obtain ⟨ad, c, e, _, hK, hc0⟩ := Kd.C_get h z50 i h0 h1
  have hc : ∀ j u, c[j]? = some u → w.cell? (ad.add (i.toNat * 2 + j)) = some u := hc0
  obtain rfl := k50_open hK
  exact ⟨ad, e, hc 0 _ rfl, by rw [← add_field _ _ 1 (by omega)]; exact hc 1 _ rfl⟩
end Go.Proofs.YtfgogfdbjbnlbaaDoor.PExpr
end
section
namespace Go.Proofs.YtfgogfdbjbnlbaaDoor.PExpr
open Go.RowKit Go.Proofs.YtfgogfdbjbnlbaaDoorW.PrintWords Go.Proofs.YtfgogfdbjbnlbaaDoorW.PrintLast Go.Proofs.YtfgogfdbjbnlbaaDoorW.PrintMore
attribute [local go_sem] max2_int min2_int max_two min_two max_three min_three max_four min_four   -- for this text's walks alone
set_option linter.unusedVariables false
set_option linter.unusedSimpArgs false
mutual
def word_kind.j1 : Nat → Int → Option (Int)
  | 0, _ => none
  | k + 1, x0 => if x0 = 32 then (some 0) else (if x0 = 9 then (some 0) else (if x0 = 10 then (some 0) else (if x0 = 13 then (some 0) else (if x0 < 32 then (some 4) else (if x0 = 127 then (some 4) else (some 3))))))
def word_kind.j0 : Nat → Int → Bool → Option (Int)
  | 0, _, _ => none
  | k + 1, x0, x3 => if x3 = true then (some 1) else (if x0 = 95 then (some 2) else (if x0 > 127 then (some 2) else (if (Go.bits .or .i32 x0 32) ≥ 97 then (if (Go.bits .or .i32 x0 32) ≤ 122 then (some 2) else (word_kind.j1 k x0)) else (word_kind.j1 k x0))))
end
def word_kind.f (k : Nat) (a0 : Int) : Option (Int) := if a0 ≥ 48 then (word_kind.j0 k a0 (decide (a0 ≤ 57))) else (word_kind.j0 k a0 false)
theorem word_kind.mono_l : ∀ k, (∀ y0, LeO (word_kind.j1 k y0) (word_kind.j1 (k + 1) y0)) ∧ (∀ y0 y1, LeO (word_kind.j0 k y0 y1) (word_kind.j0 (k + 1) y0 y1))
  | 0 => ⟨fun _ r h => by simp [word_kind.j1] at h, fun _ _ r h => by simp [word_kind.j0] at h⟩
  | k + 1 => by
    obtain ⟨ih0, ih1⟩ := word_kind.mono_l k
    refine ⟨?_, ?_⟩
    · intro y0
      unfold word_kind.j1
      repeat' first
      | (with_reducible exact ih0 _)
      | (with_reducible exact ih1 _ _)
      | (with_reducible exact LeO.refl _)
      | (with_reducible exact LeO.none _)
      | (with_reducible refine LeO.ite ?_ ?_)
      | (with_reducible refine LeO.bind ?_ (fun _ => ?_))
      | exact ih0 _
      | exact ih1 _ _
      | exact LeO.none _
      | refine LeO.ite ?_ ?_
      | refine LeO.bind ?_ (fun _ => ?_)
    · intro y0 y1
      unfold word_kind.j0
      repeat' first
      | (with_reducible exact ih0 _)
      | (with_reducible exact ih1 _ _)
      | (with_reducible exact LeO.refl _)
      | (with_reducible exact LeO.none _)
      | (with_reducible refine LeO.ite ?_ ?_)
      | (with_reducible refine LeO.bind ?_ (fun _ => ?_))
      | exact ih0 _
      | exact ih1 _ _
      | exact LeO.none _
      | refine LeO.ite ?_ ?_
      | refine LeO.bind ?_ (fun _ => ?_)
theorem word_kind.mono : ∀ a0 k, LeO (word_kind.f k a0) (word_kind.f (k + 1) a0) := by
  intro a0 k
  obtain ⟨ih0, ih1⟩ := word_kind.mono_l k
  unfold word_kind.f
  repeat' first
      | (with_reducible exact ih0 _)
      | (with_reducible exact ih1 _ _)
      | (with_reducible exact LeO.refl _)
      | (with_reducible exact LeO.none _)
      | (with_reducible refine LeO.ite ?_ ?_)
      | (with_reducible refine LeO.bind ?_ (fun _ => ?_))
      | exact ih0 _
      | exact ih1 _ _
      | exact LeO.none _
      | refine LeO.ite ?_ ?_
      | refine LeO.bind ?_ (fun _ => ?_)
set_option maxHeartbeats 8000000 in
set_option maxRecDepth 100000 in
theorem word_kind.calls (k : Nat) (a0 : Int) (r : Int) (w : World) (h : word_kind.f k a0 = some r) :
    Calls Tryd.prog 48 #[.int .i32 a0] w fun e w' => e = .returned (.int .i64 r) ∧ Drawn0 w w' := by
  have H : (if a0 ≥ 48 then (word_kind.j0 k a0 (decide (a0 ≤ 57))) else (word_kind.j0 k a0 false)) = some r := h
  clear h
  have HC2 := Aside0.mk H
  clear H
  go_enter Tryd.func48, Tryd.ntmps48
  go_upto_block 0 with (fail)
  go_cut [] (fun wc => ∃ (kq : Nat), Aside0 (word_kind.j1 kq a0 = some r) ∧ Aside0 (kq ≤ k) ∧ Drawn0 w wc)
  case first =>
    have H := HC2.out
    clear HC2
    have HC3 := Aside0.mk H
    clear H
    go_upto_region 1 with (fail)
    go_cut [3] (fun v3 wc => ∃ (kq : Nat) (x3_2 : Bool), v3 = .bool x3_2 ∧ Aside0 (word_kind.j0 kq a0 x3_2 = some r) ∧ Aside0 (kq ≤ k) ∧ Drawn0 w wc)
    case first =>
      have H := HC3.out
      clear HC3
      by_cases c4 : a0 ≥ 48
      · rw [if_pos c4] at H
        have c4b0 : decide (48 ≤ a0) = true := decide_eq_true c4
        clear c4
        (first | rw [c4b0] | (simp only [i64_w, i32_w]; rw [c4b0]) | skip)
        have H' := Aside0.mk H
        clear H
        go_wp2
        go_meet
        case rel => exact ⟨_, (decide (a0 ≤ 57)), (by first | rfl | (simp; done) | (simp [*]; done)), H', ⟨by first | omega | exact Nat.le_refl _⟩, by repeat (first | exact Drawn0.refl _ | apply Drawn0.step)⟩
      · rw [if_neg c4] at H
        have c4b0 : decide (48 ≤ a0) = false := decide_eq_false c4
        clear c4
        (first | rw [c4b0] | (simp only [i64_w, i32_w]; rw [c4b0]) | skip)
        have H' := Aside0.mk H
        clear H
        go_wp2
        go_meet
        case rel => exact ⟨_, (false), (by first | rfl | (simp; done) | (simp [*]; done)), H', ⟨by first | omega | exact Nat.le_refl _⟩, by repeat (first | exact Drawn0.refl _ | apply Drawn0.step)⟩
    case rest =>
      clear HC3
      try clear p2
      try clear c4
      try clear c4b0
      obtain ⟨kq, x3_2, rfl, HA, HJ2, ⟨mc2, rfl⟩⟩ := hcut
      cases kq with
      | zero => exact absurd HA.out (by simp [word_kind.j0])
      | succ kj2 =>
        have H := HA.out
        clear HA
        simp only [word_kind.j0] at H
        by_cases c5 : x3_2 = true
        · subst c5
          have H1 : (some 1) = some r := by rw [if_pos rfl] at H; exact H
          clear H
          have H := H1
          clear H1
          obtain rfl := Option.some.inj H
          go_wp2
          go_ret
          exact ⟨by first | rfl | (simp; done) | (simp [*]; done), by repeat (first | exact Drawn0.refl _ | apply Drawn0.step)⟩
        · replace c5 := Bool.eq_false_iff.mpr c5
          subst c5
          have H1 : (if a0 = 95 then (some 2) else (if a0 > 127 then (some 2) else (if (Go.bits .or .i32 a0 32) ≥ 97 then (if (Go.bits .or .i32 a0 32) ≤ 122 then (some 2) else (word_kind.j1 kj2 a0)) else (word_kind.j1 kj2 a0)))) = some r := by rw [if_neg (show ¬ (false = true) by decide)] at H; exact H
          clear H
          have H := H1
          clear H1
          by_cases c6 : a0 = 95
          · rw [if_pos c6] at H
            have c6b0 : (a0 == 95) = true := beq_iff_eq.mpr c6
            have c6b1 : (a0 != 95) = false := bne_eq_false_iff_eq.mpr c6
            clear c6
            obtain rfl := Option.some.inj H
            go_wp2
            go_ret
            exact ⟨by first | rfl | (simp; done) | (simp [*]; done), by repeat (first | exact Drawn0.refl _ | apply Drawn0.step)⟩
          · rw [if_neg c6] at H
            have c6b0 : (a0 == 95) = false := beq_eq_false_iff_ne.mpr c6
            have c6b1 : (a0 != 95) = true := bne_iff_ne.mpr c6
            by_cases c7 : a0 > 127
            · rw [if_pos c7] at H
              have c7b0 : decide (127 < a0) = true := decide_eq_true c7
              clear c7
              obtain rfl := Option.some.inj H
              go_wp2
              go_ret
              exact ⟨by first | rfl | (simp; done) | (simp [*]; done), by repeat (first | exact Drawn0.refl _ | apply Drawn0.step)⟩
            · rw [if_neg c7] at H
              have c7b0 : decide (127 < a0) = false := decide_eq_false c7
              clear c7
              by_cases c8 : (Go.bits .or .i32 a0 32) ≥ 97
              · rw [if_pos c8] at H
                have c8b0 : decide (97 ≤ (Go.bits .or .i32 a0 32)) = true := decide_eq_true c8
                clear c8
                by_cases c9 : (Go.bits .or .i32 a0 32) ≤ 122
                · rw [if_pos c9] at H
                  have c9b0 : decide ((Go.bits .or .i32 a0 32) ≤ 122) = true := decide_eq_true c9
                  clear c9
                  obtain rfl := Option.some.inj H
                  go_wp2
                  go_ret
                  exact ⟨by first | rfl | (simp; done) | (simp [*]; done), by repeat (first | exact Drawn0.refl _ | apply Drawn0.step)⟩
                · rw [if_neg c9] at H
                  have c9b0 : decide ((Go.bits .or .i32 a0 32) ≤ 122) = false := decide_eq_false c9
                  clear c9
                  have H' := Aside0.mk H
                  clear H
                  go_wp2
                  go_meet
                  case rel => exact ⟨_, H', ⟨by have := HJ2.out; first | omega | exact Nat.le_refl _⟩, by repeat (first | exact Drawn0.refl _ | apply Drawn0.step)⟩
              · rw [if_neg c8] at H
                have c8b0 : decide (97 ≤ (Go.bits .or .i32 a0 32)) = false := decide_eq_false c8
                clear c8
                have H' := Aside0.mk H
                clear H
                go_wp2
                go_meet
                case rel => exact ⟨_, H', ⟨by have := HJ2.out; first | omega | exact Nat.le_refl _⟩, by repeat (first | exact Drawn0.refl _ | apply Drawn0.step)⟩
  case rest =>
    clear HC2
    try clear c2
    try clear p2
    try clear c4
    try clear c4b0
    try clear c5
    try clear c6
    try clear c6b0
    try clear c6b1
    try clear c7
    try clear c7b0
    try clear c8
    try clear c8b0
    try clear c9
    try clear c9b0
    try clear p2
    obtain ⟨kq, HA, HJ1, ⟨mc1, rfl⟩⟩ := hcut
    cases kq with
    | zero => exact absurd HA.out (by simp [word_kind.j1])
    | succ kj1 =>
      have H := HA.out
      clear HA
      simp only [word_kind.j1] at H
      by_cases c10 : a0 = 32
      · rw [if_pos c10] at H
        have c10b0 : (a0 == 32) = true := beq_iff_eq.mpr c10
        have c10b1 : (a0 != 32) = false := bne_eq_false_iff_eq.mpr c10
        clear c10
        obtain rfl := Option.some.inj H
        go_wp2
        go_ret
        exact ⟨by first | rfl | (simp; done) | (simp [*]; done), by repeat (first | exact Drawn0.refl _ | apply Drawn0.step)⟩
      · rw [if_neg c10] at H
        have c10b0 : (a0 == 32) = false := beq_eq_false_iff_ne.mpr c10
        have c10b1 : (a0 != 32) = true := bne_iff_ne.mpr c10
        by_cases c11 : a0 = 9
        · rw [if_pos c11] at H
          have c11b0 : (a0 == 9) = true := beq_iff_eq.mpr c11
          have c11b1 : (a0 != 9) = false := bne_eq_false_iff_eq.mpr c11
          clear c11
          obtain rfl := Option.some.inj H
          go_wp2
          go_ret
          exact ⟨by first | rfl | (simp; done) | (simp [*]; done), by repeat (first | exact Drawn0.refl _ | apply Drawn0.step)⟩
        · rw [if_neg c11] at H
          have c11b0 : (a0 == 9) = false := beq_eq_false_iff_ne.mpr c11
          have c11b1 : (a0 != 9) = true := bne_iff_ne.mpr c11
          by_cases c12 : a0 = 10
          · rw [if_pos c12] at H
            have c12b0 : (a0 == 10) = true := beq_iff_eq.mpr c12
            have c12b1 : (a0 != 10) = false := bne_eq_false_iff_eq.mpr c12
            clear c12
            obtain rfl := Option.some.inj H
            go_wp2
            go_ret
            exact ⟨by first | rfl | (simp; done) | (simp [*]; done), by repeat (first | exact Drawn0.refl _ | apply Drawn0.step)⟩
          · rw [if_neg c12] at H
            have c12b0 : (a0 == 10) = false := beq_eq_false_iff_ne.mpr c12
            have c12b1 : (a0 != 10) = true := bne_iff_ne.mpr c12
            by_cases c13 : a0 = 13
            · rw [if_pos c13] at H
              have c13b0 : (a0 == 13) = true := beq_iff_eq.mpr c13
              have c13b1 : (a0 != 13) = false := bne_eq_false_iff_eq.mpr c13
              clear c13
              obtain rfl := Option.some.inj H
              go_wp2
              go_ret
              exact ⟨by first | rfl | (simp; done) | (simp [*]; done), by repeat (first | exact Drawn0.refl _ | apply Drawn0.step)⟩
            · rw [if_neg c13] at H
              have c13b0 : (a0 == 13) = false := beq_eq_false_iff_ne.mpr c13
              have c13b1 : (a0 != 13) = true := bne_iff_ne.mpr c13
              by_cases c14 : a0 < 32
              · rw [if_pos c14] at H
                have c14b0 : decide (a0 < 32) = true := decide_eq_true c14
                clear c14
                obtain rfl := Option.some.inj H
                go_wp2
                go_ret
                exact ⟨by first | rfl | (simp; done) | (simp [*]; done), by repeat (first | exact Drawn0.refl _ | apply Drawn0.step)⟩
              · rw [if_neg c14] at H
                have c14b0 : decide (a0 < 32) = false := decide_eq_false c14
                clear c14
                by_cases c15 : a0 = 127
                · rw [if_pos c15] at H
                  have c15b0 : (a0 == 127) = true := beq_iff_eq.mpr c15
                  have c15b1 : (a0 != 127) = false := bne_eq_false_iff_eq.mpr c15
                  clear c15
                  obtain rfl := Option.some.inj H
                  go_wp2
                  go_ret
                  exact ⟨by first | rfl | (simp; done) | (simp [*]; done), by repeat (first | exact Drawn0.refl _ | apply Drawn0.step)⟩
                · rw [if_neg c15] at H
                  have c15b0 : (a0 == 127) = false := beq_eq_false_iff_ne.mpr c15
                  have c15b1 : (a0 != 127) = true := bne_iff_ne.mpr c15
                  obtain rfl := Option.some.inj H
                  go_wp2
                  go_ret
                  exact ⟨by first | rfl | (simp; done) | (simp [*]; done), by repeat (first | exact Drawn0.refl _ | apply Drawn0.step)⟩
def stringslite_HasPrefix.f (a0 : ByteArray) (a1 : ByteArray) : Option (Bool) := if (a0.size : Int) ≥ (a1.size : Int) then (if 0 ≤ (a1.size : Int) then (if (a1.size : Int) ≤ (a0.size : Int) then (some ((a0.extract 0 ((a1.size : Int) : Int).toNat).toList == a1.toList)) else (none)) else (none)) else (some false)
set_option maxHeartbeats 8000000 in
set_option maxRecDepth 100000 in
theorem stringslite_HasPrefix.calls (a0 : ByteArray) (a1 : ByteArray) (r : Bool) (w : World) (h : stringslite_HasPrefix.f a0 a1 = some r) :
    Calls Tryd.prog 46 #[.string a0, .string a1] w fun e w' => e = .returned (.bool r) ∧ Drawn0 w w' := by
  have H : (if (a0.size : Int) ≥ (a1.size : Int) then (if 0 ≤ (a1.size : Int) then (if (a1.size : Int) ≤ (a0.size : Int) then (some ((a0.extract 0 ((a1.size : Int) : Int).toNat).toList == a1.toList)) else (none)) else (none)) else (some false)) = some r := h
  clear h
  by_cases c3 : (a0.size : Int) ≥ (a1.size : Int)
  · rw [if_pos c3] at H
    have c3b0 : decide ((a1.size : Int) ≤ (a0.size : Int)) = true := decide_eq_true c3
    have c3b1 : decide (a1.size ≤ a0.size) = true := decide_eq_true (Int.ofNat_le.mp c3)
    clear c3
    by_cases c4 : 0 ≤ (a1.size : Int)
    · rw [if_pos c4] at H
      have c4b0 := eq_true c4
      have c4b1 : decide (0 ≤ (a1.size : Int)) = true := decide_eq_true c4
      clear c4
      by_cases c5 : (a1.size : Int) ≤ (a0.size : Int)
      · rw [if_pos c5] at H
        have c5b0 := eq_true c5
        have c5b1 : decide ((a1.size : Int) ≤ (a0.size : Int)) = true := decide_eq_true c5
        clear c5
        obtain rfl := Option.some.inj H
        go_enter Tryd.func46, Tryd.ntmps46
        go_wp2
        go_ret
        exact ⟨by first | rfl | (simp; done) | (simp [*]; done), by repeat (first | exact Drawn0.refl _ | apply Drawn0.step)⟩
      · rw [if_neg c5] at H
        exact absurd H (by simp)
    · rw [if_neg c4] at H
      exact absurd H (by simp)
  · rw [if_neg c3] at H
    have c3b0 : decide ((a1.size : Int) ≤ (a0.size : Int)) = false := decide_eq_false c3
    have c3b1 : decide (a1.size ≤ a0.size) = false := decide_eq_false (fun h => c3 (Int.ofNat_le.mpr h))
    clear c3
    obtain rfl := Option.some.inj H
    go_enter Tryd.func46, Tryd.ntmps46
    go_wp2
    go_ret
    exact ⟨by first | rfl | (simp; done) | (simp [*]; done), by repeat (first | exact Drawn0.refl _ | apply Drawn0.step)⟩
def strings_HasPrefix.f (a0 : ByteArray) (a1 : ByteArray) : Option (Bool) := (stringslite_HasPrefix.f a0 a1).bind fun t101 => (some t101)
set_option maxHeartbeats 8000000 in
set_option maxRecDepth 100000 in
theorem strings_HasPrefix.calls (a0 : ByteArray) (a1 : ByteArray) (r : Bool) (w : World) (h : strings_HasPrefix.f a0 a1 = some r) :
    Calls Tryd.prog 64 #[.string a0, .string a1] w fun e w' => e = .returned (.bool r) ∧ Drawn0 w w' := by
  have H : ((stringslite_HasPrefix.f a0 a1).bind fun t101 => (some t101)) = some r := h
  clear h
  replace H := Option.bind_eq_some_iff.mp H
  obtain ⟨t101, A30, H⟩ := H
  replace H : (some t101) = some r := H
  have A3 := Aside0.mk A30
  clear A30
  obtain rfl := Option.some.inj H
  go_enter Tryd.func64, Tryd.ntmps64
  go_wp2_with (first | ((with_reducible refine gate_callee (f := 46) rfl ?_); refine goesL_ (some 7) rfl rfl Tryd.func46 (by kernel_rfl) rfl #[.string a0, .string a1] rfl (by (try simp only [List.map_toArray, List.map_cons, List.map_nil]); first | done | rfl | (simp only [List.length_drop, List.length_take]; rfl)) ?_; (with_reducible refine (stringslite_HasPrefix.calls a0 a1 t101 _ A3.out).mono ?_); rintro e w' ⟨rfl, ⟨nd, rfl⟩⟩; refine ⟨_, rfl, ?_⟩))
  go_ret
  exact ⟨by first | rfl | (simp; done) | (simp [*]; done), by repeat (first | exact Drawn0.refl _ | apply Drawn0.step)⟩
def word_whole.f (a0 : ByteArray) (a1 : Int) : Option (Bool) := if 0 ≤ a1 then (if a1 ≤ (a0.size : Int) then ((strings_HasPrefix.f (a0.extract (a1 : Int).toNat a0.size) (⟨#[239, 191, 189]⟩ : ByteArray)).bind fun t102 => (some t102)) else (none)) else (none)
set_option maxHeartbeats 8000000 in
set_option maxRecDepth 100000 in
theorem word_whole.calls (a0 : ByteArray) (a1 : Int) (r : Bool) (w : World) (h : word_whole.f a0 a1 = some r) :
    Calls Tryd.prog 49 #[.string a0, .int .i64 a1] w fun e w' => e = .returned (.bool r) ∧ Drawn0 w w' := by
  have H : (if 0 ≤ a1 then (if a1 ≤ (a0.size : Int) then ((strings_HasPrefix.f (a0.extract (a1 : Int).toNat a0.size) (⟨#[239, 191, 189]⟩ : ByteArray)).bind fun t102 => (some t102)) else (none)) else (none)) = some r := h
  clear h
  by_cases c3 : 0 ≤ a1
  · rw [if_pos c3] at H
    have c3b0 := eq_true c3
    have c3b1 : decide (0 ≤ a1) = true := decide_eq_true c3
    clear c3
    by_cases c4 : a1 ≤ (a0.size : Int)
    · rw [if_pos c4] at H
      have c4b0 := eq_true c4
      have c4b1 : decide (a1 ≤ (a0.size : Int)) = true := decide_eq_true c4
      clear c4
      replace H := Option.bind_eq_some_iff.mp H
      obtain ⟨t102, A50, H⟩ := H
      replace H : (some t102) = some r := H
      have A5 := Aside0.mk A50
      clear A50
      obtain rfl := Option.some.inj H
      go_enter Tryd.func49, Tryd.ntmps49
      go_wp2_with (first | ((with_reducible refine gate_callee (f := 64) rfl ?_); refine goesL_ (some 8) rfl rfl Tryd.func64 (by kernel_rfl) rfl #[.string (a0.extract (a1 : Int).toNat a0.size), .string (⟨#[239, 191, 189]⟩ : ByteArray)] rfl (by (try simp only [List.map_toArray, List.map_cons, List.map_nil]); first | done | rfl | (simp only [List.length_drop, List.length_take]; rfl)) ?_; (with_reducible refine (strings_HasPrefix.calls (a0.extract (a1 : Int).toNat a0.size) (⟨#[239, 191, 189]⟩ : ByteArray) t102 _ A5.out).mono ?_); rintro e w' ⟨rfl, ⟨nd, rfl⟩⟩; refine ⟨_, rfl, ?_⟩))
      go_ret
      exact ⟨by first | rfl | (simp; done) | (simp [*]; done), by repeat (first | exact Drawn0.refl _ | apply Drawn0.step)⟩
    · rw [if_neg c4] at H
      exact absurd H (by simp)
  · rw [if_neg c3] at H
    exact absurd H (by simp)
def kindR (c : Int) : Int := if 48 ≤ c ∧ c ≤ 57 then 1 else if c = 95 ∨ 127 < c ∨ (65 ≤ c ∧ c ≤ 90) ∨ (97 ≤ c ∧ c ≤ 122) then 2 else if c = 32 ∨ c = 9 ∨ c = 10 ∨ c = 13 then 0 else if c < 32 ∨ c = 127 then 4 else 3
def wholeAt (s : ByteArray) (pos : Nat) : Bool := if 3 ≤ (s.extract pos s.size).size then ((s.extract pos s.size).extract 0 3).toList == (⟨#[239, 191, 189]⟩ : ByteArray).toList else false
def lastP (l : List S109) : S109 := rd_T109 l ((l.length : Int) - 1)
def spLoop (s : ByteArray) : Nat → List S109 → Int → Nat → Option (List S109 × Int × Int)
  | 0, _, _, _ => none
  | d + 1, l, last, pos =>
    if pos < s.size then
      (if kindR (Utf8.decode s pos).1 = 4 then some ([], (pos : Int), 21)
      else if ((Utf8.decode s pos).1 : Int) = 65533 ∧ wholeAt s pos = false then some ([], (pos : Int), 21)
      else if kindR (Utf8.decode s pos).1 = 0 then spLoop s d l 0 (pos + (Utf8.decode s pos).2)
      else if kindR (Utf8.decode s pos).1 = last ∧ kindR (Utf8.decode s pos).1 ≠ 3 then
        (if l.length = 0 then none
        else if (lastP l).f1.size + (Utf8.encode (Utf8.decode s pos).1).size ≤ 9223372036854775807 then
          spLoop s d (l.set (l.length - 1) ⟨(lastP l).f0, (lastP l).f1 ++ Utf8.encode (Utf8.decode s pos).1, (lastP l).f2⟩) (kindR (Utf8.decode s pos).1) (pos + (Utf8.decode s pos).2)
        else none)
      else spLoop s d (l ++ [⟨kindR (Utf8.decode s pos).1, Utf8.encode (Utf8.decode s pos).1, (pos : Int)⟩]) (kindR (Utf8.decode s pos).1) (pos + (Utf8.decode s pos).2))
    else some (l, 0, 0)
def word_Split.f (a0 : ByteArray) : Option ((List (S109)) × Int × Int) := if a0.size > 2048 then some ([], 0, 3) else spLoop a0 (a0.size + 1) [] 0 0
theorem kind_tab : ∀ c : Fin 128, word_kind.f 3 (c.val : Int) = some (kindR (c.val : Int)) := by decide +kernel
theorem word_kind.eq (c : Nat) : word_kind.f 3 (c : Int) = some (kindR c) := by
  by_cases h : c < 128
  · exact kind_tab ⟨c, h⟩
  · unfold word_kind.f kindR
    rw [if_pos (by omega)]
    simp only [word_kind.j0]
    rw [if_neg (by simp; omega), if_neg (by omega), if_pos (by omega), if_neg (by omega), if_pos (by omega)]
theorem kindR_range (c : Int) : 0 ≤ kindR c ∧ kindR c ≤ 4 := by
  unfold kindR
  repeat' split
  all_goals omega
theorem word_whole.eq (s : ByteArray) (pos : Nat) (h : pos ≤ s.size) : word_whole.f s (pos : Int) = some (wholeAt s pos) := by
  unfold word_whole.f
  rw [if_pos (by omega), if_pos (by omega), Int.toNat_natCast]
  unfold strings_HasPrefix.f stringslite_HasPrefix.f wholeAt
  have e : ((⟨#[239, 191, 189]⟩ : ByteArray).size : Int) = 3 := rfl
  simp only [e]
  by_cases h3 : 3 ≤ (s.extract pos s.size).size
  · rw [if_pos (by omega), if_pos (by omega), if_pos (by omega), if_pos h3]
    rfl
  · rw [if_neg (by omega), if_neg h3]
    rfl
theorem decode_width (s : ByteArray) (pos : Nat) (h : pos < s.size) : 1 ≤ (Utf8.decode s pos).2 := by
  by_cases ha : (s[pos]'h).toNat < 128
  · rw [decode_ascii s pos h ha]
    exact Nat.le_refl _
  · exact (decode_high s pos h (by omega)).2
theorem decode_end (s : ByteArray) (pos : Nat) (h : pos < s.size) : pos + (Utf8.decode s pos).2 ≤ s.size := by
  simp only [Utf8.decode]
  repeat' split
  all_goals simp_all
  all_goals omega
theorem split_iter {ok : Nat → Prop} {base k pos pos' : Nat} {s : ByteArray} {w : World} {v : Value} {l : List S109} (h : Kd.R k109 109 w base ok v l) (hok : ∀ j, ok j → j ≠ k) : Kd.R k109 109 (w.iterAt k s pos') base ok v l :=
  Kd.R_step h (fun j hj _ => Lib.iterAt_other w k j s pos' (hok j hj))
theorem split_grown {ok : Nat → Prop} {base k pos : Nat} {s : ByteArray} {w w1 : World} {v : Value} {l : List S109} (h : Kd.R k109 109 w base ok v l) (hok : ∀ j, ok j → j ≠ k) (hg : w.grownBy w1 v.ownBlock) (hi : w.heap[k]? = some (.stringIter s pos)) : w1.heap[k]? = some (.stringIter s pos) := by
  rw [hg.block k (Array.getElem?_eq_some_iff.1 hi).1 (fun e => hok k (h.1 k e.symm) rfl)]
  exact hi
theorem split_open {ok : Nat → Prop} {base : Nat} {w : World} {v : Value} {l : List S109} (h : Kd.R k109 109 w base ok v l) (hn : l.length ≠ 0) : ∃ g cap, v = .slice (some ⟨g, 0, none⟩) l.length cap ∧ base ≤ g := by
  obtain ⟨inner, ho⟩ := Kd.R_own h
  rcases ho.2 with ⟨_, h0⟩ | ⟨g, cap, cur, hv, hg, _⟩
  · exact absurd h0 hn
  · exact ⟨g, cap, hv, hg⟩
theorem split_free {ok : Nat → Prop} {base g cap : Nat} {w : World} {l : List S109} (h : Kd.R k109 109 w base ok (.slice (some ⟨g, 0, none⟩) l.length cap) l) (hn : l.length ≠ 0) (j : Nat) : w.frozen? ⟨g, j, none⟩ = false := by
  obtain ⟨inner, ho⟩ := Kd.R_own h
  rcases ho.2 with ⟨_, h0⟩ | ⟨g', cap', cur, hv, hg, hh, _⟩
  · exact absurd h0 hn
  · injection hv with h1 h2 h3
    injection h1 with h1
    injection h1 with h1
    subst h1
    simp [World.frozen?, hh]
theorem k109_mkM' (w : World) (base : Nat) (ok : Nat → Prop) (a : Int) (e : ByteArray) (b : Int) : k109.M w base ok ⟨a, e, b⟩ [.int .i64 a, .string e, .int .i64 b] := k109_mkM w base ok ⟨a, e, b⟩
def SplitInv (s : ByteArray) (r : List S109 × Int × Int) (w : World) (kq : Nat) (v5 : Value) (last : Int) (w' : World) : Prop :=
  ∃ (l : List S109) (pos : Nat), pos ≤ s.size ∧ l.length ≤ pos ∧ spLoop s kq l last pos = some r ∧ Kd.R k109 109 w' w.heap.size (fun k => k ≠ w.heap.size) v5 l ∧ w'.heap[w.heap.size]? = some (.stringIter s pos) ∧ Below w.heap.size w w'
set_option maxHeartbeats 2000000 in
set_option maxRecDepth 100000 in
theorem word_Split.calls (a0 : ByteArray) (r1 : List (S109)) (r2 : Int) (r3 : Int) (w : World) (h : word_Split.f a0 = some (r1, r2, r3)) :
    Calls Tryd.prog 38 #[.string a0] w fun e w' => ∃ v0_ : Value, e = .returned (.tuple #[v0_, .int .i64 r2, .int .i64 r3]) ∧ Kd.R k109 109 w' w.heap.size (fun _ => True) v0_ r1 ∧ Below w.heap.size w w' := by
  have hu34 := Tryd.underlying109
  unfold word_Split.f at h
  by_cases c2 : a0.size > 2048
  · rw [if_pos c2] at h
    have c2b0 : decide (2048 < (a0.size : Int)) = true := decide_eq_true (by omega)
    have c2b1 : decide (2048 < a0.size) = true := decide_eq_true (by omega)
    clear c2
    simp only [Option.some.injEq, Prod.mk.injEq] at h
    obtain ⟨rfl, rfl, rfl⟩ := h
    go_enter Tryd.func38, Tryd.ntmps38
    go_wp2
    go_ret3
    exact ⟨_, rfl, Kd.R_nil _ _ _ _ _, Below.refl _ _⟩
  · rw [if_neg c2] at h
    have c2b0 : decide (2048 < (a0.size : Int)) = false := decide_eq_false (by omega)
    have c2b1 : decide (2048 < a0.size) = false := decide_eq_false (by omega)
    have HS := Aside0.mk (show a0.size ≤ 2048 by omega)
    clear c2
    have H := Aside0.mk h
    clear h
    go_enter Tryd.func38, Tryd.ntmps38
    go_wp2
    go_loopg [5, 6] (a0.size + 1) (fun kq v5 v6 w' => ∃ last : Int, v6 = .int .i64 last ∧ Aside0 (SplitInv a0 (r1, r2, r3) w kq v5 last w'))
    case atStart =>
      refine ⟨0, rfl, ⟨[], 0, Nat.zero_le _, Nat.zero_le _, H.out, Kd.R_nil _ _ _ _ _, World.iter_heap w a0 0, (Below.refl _ w).alloc (Nat.le_refl _) _⟩⟩
    case round =>
      clear H c2b0 c2b1
      obtain ⟨last, rfl, HI⟩ := hrel
      obtain ⟨l, pos, hpos, hl, hA, hR, hit, hB⟩ := HI.out
      clear HI
      cases gk with
      | zero => exact absurd hA (by simp [spLoop])
      | succ k1 =>
        simp only [spLoop] at hA
        try clear HA
        by_cases hp : pos < a0.size
        · rw [if_pos hp] at hA
          have hnx : ∀ ty, (Instr.next (.pointer (some ⟨w.heap.size, 0, none⟩)) true ty).run Tryd.prog wr = _ := fun ty => Lib.run_next_any_at wr w.heap.size a0 pos ty hit hp
          have hwd := decode_width a0 pos hp
          have hdl := decode_le a0 pos
          have HR := Aside0.mk (split_iter (pos := pos) (pos' := pos + (Utf8.decode a0 pos).2) (s := a0) hR (fun _ hj => hj))
          have HIT := Aside0.mk (Lib.iterAt_heap wr w.heap.size a0 pos (pos + (Utf8.decode a0 pos).2) hit)
          have HB := Aside0.mk (Lib.below_iterAt hB (k := w.heap.size) (Nat.le_refl _) a0 (pos + (Utf8.decode a0 pos).2))
          have HP := Aside0.mk (show pos + (Utf8.decode a0 pos).2 ≤ a0.size from decode_end a0 pos hp)
          have HL := Aside0.mk hl
          have HW := Aside0.mk hwd
          have HPo := Aside0.mk hpos
          clear hR hit hB hl hwd hpos hdl
          generalize (Utf8.decode a0 pos).1 = c at hA hnx
          have HV := Aside0.mk hA
          clear hA
          have hk := Aside0.mk (word_kind.eq c)
          have hw := Aside0.mk (word_whole.eq a0 pos HPo.out)
          have hkr := Aside0.mk (kindR_range (c : Int))
          have HC := Aside0.mk (show kindR 65533 = 2 by decide)
          generalize hkd : kindR (c : Int) = kd at HV hk hkr
          have HKD := Aside0.mk hkd
          clear hkd
          by_cases h4 : kd = 4
          · have A := HV.out
            rw [if_pos h4] at A
            obtain ⟨h41, h42⟩ := Prod.mk.inj (Option.some.inj A)
            obtain ⟨h42, h43⟩ := Prod.mk.inj h42
            have b4 : (kd == 4) = true := by simpa using h4
            have N1 := Aside0.mk h41
            have N2 := Aside0.mk h42
            have N3 := Aside0.mk h43
            clear h4 A h41 h42 h43
            go_wp2_with (go_at_call 48; refine (word_kind.calls 3 _ _ _ hk.out).mono ?_; rintro e w' ⟨rfl, ⟨nd, rfl⟩⟩)
            go_ret3
            exact ⟨_, by rw [← N2.out, ← N3.out]; rfl, by rw [← N1.out]; exact Kd.R_nil _ _ _ _ _, by repeat (first | exact HB.out | apply pw_below_drewN)⟩
          · have b4 : (kd == 4) = false := by simpa using h4
            by_cases hcw : (c : Int) = 65533 ∧ wholeAt a0 pos = false
            · have A := HV.out
              rw [if_neg h4, if_pos hcw] at A
              obtain ⟨h41, h42⟩ := Prod.mk.inj (Option.some.inj A)
              obtain ⟨h42, h43⟩ := Prod.mk.inj h42
              have N1 := Aside0.mk h41
              have N2 := Aside0.mk h42
              have N3 := Aside0.mk h43
              obtain ⟨hc, hw0⟩ := hcw
              have bc : ((c : Int) == 65533) = true := by simpa using hc
              have hw1 := hw.out
              rw [hw0] at hw1
              have HW1 := Aside0.mk hw1
              clear hw1 hw0 hc h4 A h41 h42 h43
              go_wp2_with (first | (go_at_call 48; refine (word_kind.calls 3 _ _ _ hk.out).mono ?_; rintro e w' ⟨rfl, ⟨nd, rfl⟩⟩) | (go_at_call 49; refine (word_whole.calls _ _ _ _ HW1.out).mono ?_; rintro e w' ⟨rfl, ⟨nd2, rfl⟩⟩))
              go_ret3
              exact ⟨_, by rw [← N2.out, ← N3.out]; rfl, by rw [← N1.out]; exact Kd.R_nil _ _ _ _ _, by repeat (first | exact HB.out | apply pw_below_drewN)⟩
            · have A2 := HV.out
              rw [if_neg h4, if_neg hcw] at A2
              have HV2 := Aside0.mk A2
              clear HV h4 A2
              have hcase : ((c : Int) = 65533 ∧ wholeAt a0 pos = true) ∨ ¬ (c : Int) = 65533 := by
                by_cases h1 : (c : Int) = 65533
                · exact .inl ⟨h1, by cases hz : wholeAt a0 pos with | true => rfl | false => exact absurd ⟨h1, hz⟩ hcw⟩
                · exact .inr h1
              clear hcw
              by_cases h0 : kd = 0
              · subst h0
                have HV3 := Aside0.mk (show spLoop a0 k1 l 0 (pos + (Utf8.decode a0 pos).2) = some (r1, r2, r3) from by have A := HV2.out; rw [if_pos rfl] at A; exact A)
                clear HV2
                rcases hcase with ⟨hc, hw0⟩ | hc
                · have bc : ((c : Int) == 65533) = true := by simpa using hc
                  have hw1 := hw.out
                  rw [hw0] at hw1
                  have HW1 := Aside0.mk hw1
                  clear hw1 hw0 hc
                  go_wp2_with (first | (go_at_call 48; refine (word_kind.calls 3 _ _ _ hk.out).mono ?_; rintro e w' ⟨rfl, ⟨nd, rfl⟩⟩) | (go_at_call 49; refine (word_whole.calls _ _ _ _ HW1.out).mono ?_; rintro e w' ⟨rfl, ⟨nd2, rfl⟩⟩))
                  go_roundg k1
                  case measure => omega
                  case rel => exact ⟨0, rfl, ⟨l, _, HP.out, by have := HL.out; omega, HV3.out, by repeat (first | exact HR.out | apply Kd.R_drewN), HIT.out, by repeat (first | exact HB.out | apply pw_below_drewN)⟩⟩
                · have bc : ((c : Int) == 65533) = false := by simpa using hc
                  clear hc
                  go_wp2_with (first | (go_at_call 48; refine (word_kind.calls 3 _ _ _ hk.out).mono ?_; rintro e w' ⟨rfl, ⟨nd, rfl⟩⟩))
                  go_roundg k1
                  case measure => omega
                  case rel => exact ⟨0, rfl, ⟨l, _, HP.out, by have := HL.out; omega, HV3.out, by repeat (first | exact HR.out | apply Kd.R_drewN), HIT.out, by repeat (first | exact HB.out | apply pw_below_drewN)⟩⟩
              · have b0 : (kd == 0) = false := by simpa using h0
                have A3 := HV2.out
                rw [if_neg h0] at A3
                clear HV2 h0
                by_cases hsm : kd = last ∧ kd ≠ 3
                · rw [if_pos hsm] at A3
                  by_cases hl0 : l.length = 0
                  · rw [if_pos hl0] at A3; cases A3
                  · rw [if_neg hl0] at A3
                    by_cases hbig : (lastP l).f1.size + (Utf8.encode c).size ≤ 9223372036854775807
                    · rw [if_pos hbig] at A3
                      obtain ⟨rfl, h3⟩ := hsm
                      have b3 : (kd == 3) = false := by simpa using h3
                      have b3n : (kd != 3) = true := by simpa using h3
                      obtain ⟨g, cap, hv, hg⟩ := split_open HR.out hl0
                      obtain ⟨j, hj⟩ : ∃ j, l.length = j + 1 := ⟨l.length - 1, by omega⟩
                      subst hv
                      obtain ⟨ad, ead, hx0, hx1, hx2⟩ := at_T109 (Kd.R_reads' HR.out).2.2 (j : Int) (by omega) (by omega)
                      have hfr := split_free HR.out hl0 (j * 3 + 1)
                      have hlp : lastP l = rd_T109 l (j : Int) := by unfold lastP; congr 1; omega
                      rw [hlp] at hbig A3
                      injection ead with ead
                      subst ead
                      rw [Int.toNat_natCast, Go.Proofs.YtfgogfdbjbnlbaaDoorW.PrintWords.add_plain] at hx0 hx1 hx2
                      have HG := Aside0.mk hg
                      have hRj := HR.out
                      rw [hj] at hRj
                      have HRJ := Aside0.mk hRj
                      have hjl : l.length - 1 = j := by omega
                      rw [hjl] at A3
                      clear hRj HR hjl
                      have HX0 := Aside0.mk hx0
                      have HX2 := Aside0.mk hx2
                      have HV3 := Aside0.mk A3
                      have HJ := Aside0.mk hj
                      have hj8 : j ≤ 2048 := by have h1 := HL.out; have h2 := HPo.out; have h3 := HS.out; omega
                      rw [hj]
                      clear A3 h3 hl0 hlp hx0 hx2 hg hj
                      have hcat : ∀ W, (Op.stringOp .add (rd_T109 l (j : Int)).f1 (Utf8.encode c)).run Tryd.prog W = .ok (.string ((rd_T109 l (j : Int)).f1 ++ Utf8.encode c)) W := fun W => run_string_add_sum W _ _ hbig
                      clear hbig
                      generalize rd_T109 l (j : Int) = q at hcat hx1 HV3 HX0 HX2
                      rcases hcase with ⟨hc, hw0⟩ | hc
                      · have bc : ((c : Int) == 65533) = true := by simpa using hc
                        have hw1 := hw.out
                        rw [hw0] at hw1
                        have HW1 := Aside0.mk hw1
                        clear hw1 hw0 hc
                        go_wp2_with (first | (go_at_call 48; refine (word_kind.calls 3 _ _ _ hk.out).mono ?_; rintro e w' ⟨rfl, ⟨nd, rfl⟩⟩) | (go_at_call 49; refine (word_whole.calls _ _ _ _ HW1.out).mono ?_; rintro e w' ⟨rfl, ⟨nd2, rfl⟩⟩))
                        have hcs : ∀ jj u, ([.int .i64 q.f0, .string q.f1, .int .i64 q.f2] : List Value)[jj]? = some u → (World.drewN (wr.iterAt w.heap.size a0 (pos + (Utf8.decode a0 pos).2)) (nd + nd2)).cell? ⟨g, ((j : Nat) : Int).toNat * k109.sz + jj, none⟩ = some u := by
                          intro jj u hu
                          rw [Int.toNat_natCast]
                          rcases jj with _ | _ | _ | jj
                          · obtain rfl := Option.some.inj hu; exact HX0.out
                          · obtain rfl := Option.some.inj hu; exact hx1
                          · obtain rfl := Option.some.inj hu; exact HX2.out
                          · cases hu
                        obtain ⟨hrow, hgr⟩ := Kd.R_seg (okp := fun _ => False) (seg := [.string (q.f1 ++ Utf8.encode c)]) (j := 1) (x' := (⟨q.f0, q.f1 ++ Utf8.encode c, q.f2⟩ : S109)) (c := [.int .i64 q.f0, .string q.f1, .int .i64 q.f2]) (Kd.R_drewN HRJ.out (nd + nd2)) ((j : Nat) : Int) (Int.natCast_nonneg _) (by omega) rfl hcs (by show 1 + 1 ≤ 3; decide) (k109_mkM' _ _ _ q.f0 (q.f1 ++ Utf8.encode c) q.f2) (fun _ hk => hk.elim)
                        rw [Int.toNat_natCast] at hrow hgr
                        have hrow2 := Aside0.mk hrow
                        have hit3 := Aside0.mk (split_grown (s := a0) (pos := pos + (Utf8.decode a0 pos).2) (k := w.heap.size) (Kd.R_drewN HRJ.out (nd + nd2)) (fun _ hj => hj) hgr HIT.out)
                        have hbel := Aside0.mk (Below.setCell (p := ⟨g, j * 3 + 1, none⟩) (pw_below_drewN HB.out (n := nd + nd2)) HG.out (.string (q.f1 ++ Utf8.encode c)))
                        go_roundg k1
                        case measure => omega
                        case rel => exact ⟨kd, rfl, ⟨_, _, HP.out, by rw [List.length_set]; have h1 := HL.out; have h2 := HW.out; omega, HV3.out, hrow2.out, hit3.out, hbel.out⟩⟩
                      · have bc : ((c : Int) == 65533) = false := by simpa using hc
                        clear hc
                        go_wp2_with (first | (go_at_call 48; refine (word_kind.calls 3 _ _ _ hk.out).mono ?_; rintro e w' ⟨rfl, ⟨nd, rfl⟩⟩))
                        have hcs : ∀ jj u, ([.int .i64 q.f0, .string q.f1, .int .i64 q.f2] : List Value)[jj]? = some u → (World.drewN (wr.iterAt w.heap.size a0 (pos + (Utf8.decode a0 pos).2)) nd).cell? ⟨g, ((j : Nat) : Int).toNat * k109.sz + jj, none⟩ = some u := by
                          intro jj u hu
                          rw [Int.toNat_natCast]
                          rcases jj with _ | _ | _ | jj
                          · obtain rfl := Option.some.inj hu; exact HX0.out
                          · obtain rfl := Option.some.inj hu; exact hx1
                          · obtain rfl := Option.some.inj hu; exact HX2.out
                          · cases hu
                        obtain ⟨hrow, hgr⟩ := Kd.R_seg (okp := fun _ => False) (seg := [.string (q.f1 ++ Utf8.encode c)]) (j := 1) (x' := (⟨q.f0, q.f1 ++ Utf8.encode c, q.f2⟩ : S109)) (c := [.int .i64 q.f0, .string q.f1, .int .i64 q.f2]) (Kd.R_drewN HRJ.out nd) ((j : Nat) : Int) (Int.natCast_nonneg _) (by omega) rfl hcs (by show 1 + 1 ≤ 3; decide) (k109_mkM' _ _ _ q.f0 (q.f1 ++ Utf8.encode c) q.f2) (fun _ hk => hk.elim)
                        rw [Int.toNat_natCast] at hrow hgr
                        have hrow2 := Aside0.mk hrow
                        have hit3 := Aside0.mk (split_grown (s := a0) (pos := pos + (Utf8.decode a0 pos).2) (k := w.heap.size) (Kd.R_drewN HRJ.out nd) (fun _ hj => hj) hgr HIT.out)
                        have hbel := Aside0.mk (Below.setCell (p := ⟨g, j * 3 + 1, none⟩) (pw_below_drewN HB.out (n := nd)) HG.out (.string (q.f1 ++ Utf8.encode c)))
                        go_roundg k1
                        case measure => omega
                        case rel => exact ⟨kd, rfl, ⟨_, _, HP.out, by rw [List.length_set]; have h1 := HL.out; have h2 := HW.out; omega, HV3.out, hrow2.out, hit3.out, hbel.out⟩⟩
                    · rw [if_neg hbig] at A3; cases A3
                · rw [if_neg hsm] at A3
                  have HV3 := Aside0.mk A3
                  clear A3
                  have hsplit : (kd == last) = false ∨ (kd = 3 ∧ last = 3) := by
                    by_cases h1 : kd = last
                    · have h3 : kd = 3 := by
                        by_cases h : kd = 3
                        · exact h
                        · exact absurd ⟨h1, h⟩ hsm
                      exact .inr ⟨h3, by rw [← h1]; exact h3⟩
                    · exact .inl (by simpa using h1)
                  clear hsm
                  rcases hsplit with bl | ⟨rfl, rfl⟩
                  · rcases hcase with ⟨hc, hw0⟩ | hc
                    · have bc : ((c : Int) == 65533) = true := by simpa using hc
                      have hw1 := hw.out
                      rw [hw0] at hw1
                      have HW1 := Aside0.mk hw1
                      clear hw1 hw0 hc
                      go_wp2_with (first | (go_at_call 48; refine (word_kind.calls 3 _ _ _ hk.out).mono ?_; rintro e w' ⟨rfl, ⟨nd, rfl⟩⟩) | (go_at_call 49; refine (word_whole.calls _ _ _ _ HW1.out).mono ?_; rintro e w' ⟨rfl, ⟨nd2, rfl⟩⟩) | ((with_reducible refine gate_builtin (b := .append) (xs := #[.tmp 37, .tmp 42]) rfl ?_); at_builtin; refine Kd.R_append k109 (w0 := w) w.heap.size rfl (.tmp 37) (.tmp 42) 74 109 (.agg #[(.int .i64 0), (.string ⟨#[]⟩), (.int .i64 0)]) 32 rfl Tryd.underlying74 info109 rfl (by decide) (by omega) u5 l (⟨kd, Utf8.encode c, (pos : Int)⟩ : S109) [.int .i64 kd, .string (Utf8.encode c), .int .i64 pos] (fun k => k ≠ w.heap.size) (fun _ => False) rfl rfl ?aP (fun _ hk => hk.elim) ?aF ?aO ?aB ?aS ?aL ?_; (case aP => exact k109_mkM' _ _ _ kd (Utf8.encode c) (pos : Int)); (case aF => exact fun k hk => by have h1 := (Array.getElem?_eq_some_iff.1 HIT.out).1; have h2 : (wr.iterAt w.heap.size a0 (pos + (Utf8.decode a0 pos).2)).heap.size ≤ k := hk; omega); (case aO => exact (by repeat (first | exact HR.out | apply Kd.R_drewN))); (case aB => exact (by repeat (first | exact HB.out | apply pw_below_drewN))); (case aS => exact (by repeat (first | exact HB.out | apply pw_below_drewN) : Below w.heap.size w _).size); (case aL => have h1 := HL.out; have h2 := HPo.out; have h3 := HS.out; omega); intro v1 w1 ho hb hg hat; have hi1 := Aside0.mk (split_grown (s := a0) (pos := pos + (Utf8.decode a0 pos).2) (k := w.heap.size) (by repeat (first | exact HR.out | apply Kd.R_drewN)) (fun _ hj => hj) hg HIT.out); have ho1 := Aside0.mk ho; have hb1 := Aside0.mk hb; clear ho hb hg hat))
                      go_roundg k1
                      case measure => omega
                      case rel => exact ⟨_, rfl, ⟨_, _, HP.out, by rw [List.length_append]; have h1 := HL.out; have h2 := HW.out; simp; omega, HV3.out, ho1.out, hi1.out, hb1.out⟩⟩
                    · have bc : ((c : Int) == 65533) = false := by simpa using hc
                      clear hc
                      go_wp2_with (first | (go_at_call 48; refine (word_kind.calls 3 _ _ _ hk.out).mono ?_; rintro e w' ⟨rfl, ⟨nd, rfl⟩⟩) | ((with_reducible refine gate_builtin (b := .append) (xs := #[.tmp 37, .tmp 42]) rfl ?_); at_builtin; refine Kd.R_append k109 (w0 := w) w.heap.size rfl (.tmp 37) (.tmp 42) 74 109 (.agg #[(.int .i64 0), (.string ⟨#[]⟩), (.int .i64 0)]) 32 rfl Tryd.underlying74 info109 rfl (by decide) (by omega) u5 l (⟨kd, Utf8.encode c, (pos : Int)⟩ : S109) [.int .i64 kd, .string (Utf8.encode c), .int .i64 pos] (fun k => k ≠ w.heap.size) (fun _ => False) rfl rfl ?aP (fun _ hk => hk.elim) ?aF ?aO ?aB ?aS ?aL ?_; (case aP => exact k109_mkM' _ _ _ kd (Utf8.encode c) (pos : Int)); (case aF => exact fun k hk => by have h1 := (Array.getElem?_eq_some_iff.1 HIT.out).1; have h2 : (wr.iterAt w.heap.size a0 (pos + (Utf8.decode a0 pos).2)).heap.size ≤ k := hk; omega); (case aO => exact (by repeat (first | exact HR.out | apply Kd.R_drewN))); (case aB => exact (by repeat (first | exact HB.out | apply pw_below_drewN))); (case aS => exact (by repeat (first | exact HB.out | apply pw_below_drewN) : Below w.heap.size w _).size); (case aL => have h1 := HL.out; have h2 := HPo.out; have h3 := HS.out; omega); intro v1 w1 ho hb hg hat; have hi1 := Aside0.mk (split_grown (s := a0) (pos := pos + (Utf8.decode a0 pos).2) (k := w.heap.size) (by repeat (first | exact HR.out | apply Kd.R_drewN)) (fun _ hj => hj) hg HIT.out); have ho1 := Aside0.mk ho; have hb1 := Aside0.mk hb; clear ho hb hg hat))
                      go_roundg k1
                      case measure => omega
                      case rel => exact ⟨_, rfl, ⟨_, _, HP.out, by rw [List.length_append]; have h1 := HL.out; have h2 := HW.out; simp; omega, HV3.out, ho1.out, hi1.out, hb1.out⟩⟩
                  · rcases hcase with ⟨hc, hw0⟩ | hc
                    · have bc : ((c : Int) == 65533) = true := by simpa using hc
                      have hw1 := hw.out
                      rw [hw0] at hw1
                      have HW1 := Aside0.mk hw1
                      clear hw1 hw0 hc
                      go_wp2_with (first | (go_at_call 48; refine (word_kind.calls 3 _ _ _ hk.out).mono ?_; rintro e w' ⟨rfl, ⟨nd, rfl⟩⟩) | (go_at_call 49; refine (word_whole.calls _ _ _ _ HW1.out).mono ?_; rintro e w' ⟨rfl, ⟨nd2, rfl⟩⟩) | ((with_reducible refine gate_builtin (b := .append) (xs := #[.tmp 37, .tmp 42]) rfl ?_); at_builtin; refine Kd.R_append k109 (w0 := w) w.heap.size rfl (.tmp 37) (.tmp 42) 74 109 (.agg #[(.int .i64 0), (.string ⟨#[]⟩), (.int .i64 0)]) 32 rfl Tryd.underlying74 info109 rfl (by decide) (by omega) u5 l (⟨3, Utf8.encode c, (pos : Int)⟩ : S109) [.int .i64 3, .string (Utf8.encode c), .int .i64 pos] (fun k => k ≠ w.heap.size) (fun _ => False) rfl rfl ?aP (fun _ hk => hk.elim) ?aF ?aO ?aB ?aS ?aL ?_; (case aP => exact k109_mkM' _ _ _ 3 (Utf8.encode c) (pos : Int)); (case aF => exact fun k hk => by have h1 := (Array.getElem?_eq_some_iff.1 HIT.out).1; have h2 : (wr.iterAt w.heap.size a0 (pos + (Utf8.decode a0 pos).2)).heap.size ≤ k := hk; omega); (case aO => exact (by repeat (first | exact HR.out | apply Kd.R_drewN))); (case aB => exact (by repeat (first | exact HB.out | apply pw_below_drewN))); (case aS => exact (by repeat (first | exact HB.out | apply pw_below_drewN) : Below w.heap.size w _).size); (case aL => have h1 := HL.out; have h2 := HPo.out; have h3 := HS.out; omega); intro v1 w1 ho hb hg hat; have hi1 := Aside0.mk (split_grown (s := a0) (pos := pos + (Utf8.decode a0 pos).2) (k := w.heap.size) (by repeat (first | exact HR.out | apply Kd.R_drewN)) (fun _ hj => hj) hg HIT.out); have ho1 := Aside0.mk ho; have hb1 := Aside0.mk hb; clear ho hb hg hat))
                      go_roundg k1
                      case measure => omega
                      case rel => exact ⟨_, rfl, ⟨_, _, HP.out, by rw [List.length_append]; have h1 := HL.out; have h2 := HW.out; simp; omega, HV3.out, ho1.out, hi1.out, hb1.out⟩⟩
                    · have bc : ((c : Int) == 65533) = false := by simpa using hc
                      clear hc
                      go_wp2_with (first | (go_at_call 48; refine (word_kind.calls 3 _ _ _ hk.out).mono ?_; rintro e w' ⟨rfl, ⟨nd, rfl⟩⟩) | ((with_reducible refine gate_builtin (b := .append) (xs := #[.tmp 37, .tmp 42]) rfl ?_); at_builtin; refine Kd.R_append k109 (w0 := w) w.heap.size rfl (.tmp 37) (.tmp 42) 74 109 (.agg #[(.int .i64 0), (.string ⟨#[]⟩), (.int .i64 0)]) 32 rfl Tryd.underlying74 info109 rfl (by decide) (by omega) u5 l (⟨3, Utf8.encode c, (pos : Int)⟩ : S109) [.int .i64 3, .string (Utf8.encode c), .int .i64 pos] (fun k => k ≠ w.heap.size) (fun _ => False) rfl rfl ?aP (fun _ hk => hk.elim) ?aF ?aO ?aB ?aS ?aL ?_; (case aP => exact k109_mkM' _ _ _ 3 (Utf8.encode c) (pos : Int)); (case aF => exact fun k hk => by have h1 := (Array.getElem?_eq_some_iff.1 HIT.out).1; have h2 : (wr.iterAt w.heap.size a0 (pos + (Utf8.decode a0 pos).2)).heap.size ≤ k := hk; omega); (case aO => exact (by repeat (first | exact HR.out | apply Kd.R_drewN))); (case aB => exact (by repeat (first | exact HB.out | apply pw_below_drewN))); (case aS => exact (by repeat (first | exact HB.out | apply pw_below_drewN) : Below w.heap.size w _).size); (case aL => have h1 := HL.out; have h2 := HPo.out; have h3 := HS.out; omega); intro v1 w1 ho hb hg hat; have hi1 := Aside0.mk (split_grown (s := a0) (pos := pos + (Utf8.decode a0 pos).2) (k := w.heap.size) (by repeat (first | exact HR.out | apply Kd.R_drewN)) (fun _ hj => hj) hg HIT.out); have ho1 := Aside0.mk ho; have hb1 := Aside0.mk hb; clear ho hb hg hat))
                      go_roundg k1
                      case measure => omega
                      case rel => exact ⟨_, rfl, ⟨_, _, HP.out, by rw [List.length_append]; have h1 := HL.out; have h2 := HW.out; simp; omega, HV3.out, ho1.out, hi1.out, hb1.out⟩⟩
        · rw [if_neg hp] at hA
          have hnx : ∀ ty, (Instr.next (.pointer (some ⟨w.heap.size, 0, none⟩)) true ty).run Tryd.prog wr = _ := fun ty => Lib.run_next_end_at wr w.heap.size a0 pos ty hit hp
          have HR := Aside0.mk hR
          have HB := Aside0.mk hB
          obtain ⟨h41, h42⟩ := Prod.mk.inj (Option.some.inj hA)
          obtain ⟨h42, h43⟩ := Prod.mk.inj h42
          have N1 := Aside0.mk h41
          have N2 := Aside0.mk h42
          have N3 := Aside0.mk h43
          clear hA hR hB hit h41 h42 h43 hl hpos hp
          go_wp2
          go_ret3
          exact ⟨_, by rw [← N2.out, ← N3.out]; rfl, by rw [← N1.out]; exact Kd.R_mono HR.out (fun _ _ => trivial), HB.out⟩
def bytealg_Cutover.f (a0 : Int) : Option (Int) := some (wrap64 (Int.tdiv (wrap64 (a0 + 16)) 8))
mutual
def bytealg_hashStr_string.l0 : Nat → ByteArray → Int → Int → Option (Int × Int)
  | 0, _, _, _ => none
  | k + 1, x0, x4, x5 => if x5 < (x0.size : Int) then (if 0 ≤ x5 then (bytealg_hashStr_string.l0 k x0 ((((x4 * 16777619) % 4294967296) + ((bt x0 x5) % 4294967296)) % 4294967296) (wrap64 (x5 + 1))) else (none)) else (bytealg_hashStr_string.l1 k x4 1 16777619 (x0.size : Int))
def bytealg_hashStr_string.l1 : Nat → Int → Int → Int → Int → Option (Int × Int)
  | 0, _, _, _, _ => none
  | k + 1, x4, x6, x7, x8 => if x8 > 0 then (if (Go.bits .and .i64 x8 1) = 0 then (bytealg_hashStr_string.l1 k x4 x6 ((x7 * x7) % 4294967296) (x8 / 2)) else (bytealg_hashStr_string.l1 k x4 ((x6 * x7) % 4294967296) ((x7 * x7) % 4294967296) (x8 / 2))) else (some (x4, x6))
end
def bytealg_hashStr_string.f (k : Nat) (a0 : ByteArray) : Option (Int × Int) := bytealg_hashStr_string.l0 k a0 0 0
theorem bytealg_hashStr_string.mono_l : ∀ k, (∀ y0 y1 y2, LeO (bytealg_hashStr_string.l0 k y0 y1 y2) (bytealg_hashStr_string.l0 (k + 1) y0 y1 y2)) ∧ (∀ y0 y1 y2 y3, LeO (bytealg_hashStr_string.l1 k y0 y1 y2 y3) (bytealg_hashStr_string.l1 (k + 1) y0 y1 y2 y3))
  | 0 => ⟨fun _ _ _ r h => by simp [bytealg_hashStr_string.l0] at h, fun _ _ _ _ r h => by simp [bytealg_hashStr_string.l1] at h⟩
  | k + 1 => by
    obtain ⟨ih0, ih1⟩ := bytealg_hashStr_string.mono_l k
    refine ⟨?_, ?_⟩
    · intro y0 y1 y2
      unfold bytealg_hashStr_string.l0
      repeat' first
      | (with_reducible exact ih0 _ _ _)
      | (with_reducible exact ih1 _ _ _ _)
      | (with_reducible exact LeO.refl _)
      | (with_reducible exact LeO.none _)
      | (with_reducible refine LeO.ite ?_ ?_)
      | (with_reducible refine LeO.bind ?_ (fun _ => ?_))
      | exact ih0 _ _ _
      | exact ih1 _ _ _ _
      | exact LeO.none _
      | refine LeO.ite ?_ ?_
      | refine LeO.bind ?_ (fun _ => ?_)
    · intro y0 y1 y2 y3
      unfold bytealg_hashStr_string.l1
      repeat' first
      | (with_reducible exact ih0 _ _ _)
      | (with_reducible exact ih1 _ _ _ _)
      | (with_reducible exact LeO.refl _)
      | (with_reducible exact LeO.none _)
      | (with_reducible refine LeO.ite ?_ ?_)
      | (with_reducible refine LeO.bind ?_ (fun _ => ?_))
      | exact ih0 _ _ _
      | exact ih1 _ _ _ _
      | exact LeO.none _
      | refine LeO.ite ?_ ?_
      | refine LeO.bind ?_ (fun _ => ?_)
theorem bytealg_hashStr_string.mono : ∀ a0 k, LeO (bytealg_hashStr_string.f k a0) (bytealg_hashStr_string.f (k + 1) a0) := by
  intro a0 k
  obtain ⟨ih0, ih1⟩ := bytealg_hashStr_string.mono_l k
  unfold bytealg_hashStr_string.f
  repeat' first
      | (with_reducible exact ih0 _ _ _)
      | (with_reducible exact ih1 _ _ _ _)
      | (with_reducible exact LeO.refl _)
      | (with_reducible exact LeO.none _)
      | (with_reducible refine LeO.ite ?_ ?_)
      | (with_reducible refine LeO.bind ?_ (fun _ => ?_))
      | exact ih0 _ _ _
      | exact ih1 _ _ _ _
      | exact LeO.none _
      | refine LeO.ite ?_ ?_
      | refine LeO.bind ?_ (fun _ => ?_)
end Go.Proofs.YtfgogfdbjbnlbaaDoor.PExpr
end
section
namespace Go.Proofs.YtfgogfdbjbnlbaaDoor.PExpr
open Go.RowKit Go.Proofs.YtfgogfdbjbnlbaaDoorW.PrintWords Go.Proofs.YtfgogfdbjbnlbaaDoorW.PrintLast Go.Proofs.YtfgogfdbjbnlbaaDoorW.PrintMore
attribute [local go_sem] max2_int min2_int max_two min_two max_three min_three max_four min_four   -- for this text's walks alone
set_option linter.unusedVariables false
set_option linter.unusedSimpArgs false
def expr_plain.f (a0_0 : Int) (a0_1 : ByteArray) (a0_2 : Int) : Option (Bool) := some (a0_0 != 3)
def slices_Index_string_string.l0 : Nat → List ByteArray → ByteArray → Int → Int → Option (Int)
  | 0, _, _, _, _ => none
  | k + 1, x0, x1, x7, x8 => if x8 < x7 then (if 0 ≤ x8 then (if x8 < (x0.length : Int) then (if x1.toList = (rdOf ByteArray.empty x0 x8).toList then (some x8) else (slices_Index_string_string.l0 k x0 x1 x7 (wrap64 (x8 + 1)))) else (none)) else (none)) else (some (-1))
def slices_Index_string_string.f (k : Nat) (l0 : List ByteArray) (a1 : ByteArray) : Option (Int) := slices_Index_string_string.l0 k l0 a1 (l0.length : Int) 0
theorem slices_Index_string_string.mono_l : ∀ k, (∀ y0 y1 y2 y3, LeO (slices_Index_string_string.l0 k y0 y1 y2 y3) (slices_Index_string_string.l0 (k + 1) y0 y1 y2 y3))
  | 0 => fun _ _ _ _ r h => by simp [slices_Index_string_string.l0] at h
  | k + 1 => by
    have ih0 := slices_Index_string_string.mono_l k
    · intro y0 y1 y2 y3
      unfold slices_Index_string_string.l0
      repeat' first
      | (with_reducible exact ih0 _ _ _ _)
      | (with_reducible exact LeO.refl _)
      | (with_reducible exact LeO.none _)
      | (with_reducible refine LeO.ite ?_ ?_)
      | (with_reducible refine LeO.bind ?_ (fun _ => ?_))
      | exact ih0 _ _ _ _
      | exact LeO.none _
      | refine LeO.ite ?_ ?_
      | refine LeO.bind ?_ (fun _ => ?_)
theorem slices_Index_string_string.mono : ∀ a0 a1 k, LeO (slices_Index_string_string.f k a0 a1) (slices_Index_string_string.f (k + 1) a0 a1) := by
  intro a0 a1 k
  have ih0 := slices_Index_string_string.mono_l k
  unfold slices_Index_string_string.f
  repeat' first
      | (with_reducible exact ih0 _ _ _ _)
      | (with_reducible exact LeO.refl _)
      | (with_reducible exact LeO.none _)
      | (with_reducible refine LeO.ite ?_ ?_)
      | (with_reducible refine LeO.bind ?_ (fun _ => ?_))
      | exact ih0 _ _ _ _
      | exact LeO.none _
      | refine LeO.ite ?_ ?_
      | refine LeO.bind ?_ (fun _ => ?_)
set_option maxHeartbeats 8000000 in
set_option maxRecDepth 100000 in
theorem slices_Index_string_string.calls (k : Nat) (A0 : Option Addr) (c0 : Nat) (l0 : List ByteArray) (a1 : ByteArray) (r : Int) (w : World) (hr0 : Kd.C Kd.string w A0 l0.length l0) (hc0 : l0.length ≤ c0) (h : slices_Index_string_string.f k l0 a1 = some r) :
    Calls Tryd.prog 29 #[.slice A0 l0.length c0, .string a1] w fun e w' => e = .returned (.int .i64 r) ∧ Drawn0 w w' := by
  have HR0 := Aside0.mk hr0
  have HC0 := Aside0.mk hc0
  clear hr0 hc0
  have H : (slices_Index_string_string.l0 k l0 a1 (l0.length : Int) 0) = some r := h
  clear h
  have H' := Aside0.mk H
  clear H
  go_enter Tryd.func29, Tryd.ntmps29
  go_wp2
  go_loopg [8] k (fun kq v8 w' => ∃ (x8_1 : Int), v8 = .int .i64 x8_1 ∧ Aside0 (slices_Index_string_string.l0 kq l0 a1 (l0.length : Int) x8_1 = some r) ∧ Aside0 (kq ≤ k) ∧ Drawn0 w w')
  case atStart => exact ⟨(0), (by first | rfl | (simp; done) | (simp [*]; done)), H', ⟨Nat.le_refl _⟩, by repeat (first | exact Drawn0.refl _ | apply Drawn0.step)⟩
  case round =>
    clear H'
    try clear c2
    try clear p2
    obtain ⟨x8_1, rfl, HA, HK1, ⟨m1, rfl⟩⟩ := hrel
    cases gk with
    | zero => exact absurd HA.out (by simp [slices_Index_string_string.l0])
    | succ k1 =>
      have H := HA.out
      clear HA
      simp only [slices_Index_string_string.l0] at H
      by_cases c3 : x8_1 < (l0.length : Int)
      · rw [if_pos c3] at H
        have c3b0 : decide (x8_1 < (l0.length : Int)) = true := decide_eq_true c3
        clear c3
        by_cases c4 : 0 ≤ x8_1
        · rw [if_pos c4] at H
          have c4b0 : decide (0 ≤ x8_1) = true := decide_eq_true c4
          clear c4
          by_cases c5 : x8_1 < (l0.length : Int)
          · rw [if_pos c5] at H
            have c5b0 : decide (x8_1 < (l0.length : Int)) = true := decide_eq_true c5
            clear c5
            by_cases c6 : a1.toList = (rdOf ByteArray.empty l0 x8_1).toList
            · rw [if_pos c6] at H
              have c6b0 : (a1.toList == (rdOf ByteArray.empty l0 x8_1).toList) = true := beq_iff_eq.mpr c6
              have c6b1 : (a1.toList != (rdOf ByteArray.empty l0 x8_1).toList) = false := bne_eq_false_iff_eq.mpr c6
              clear c6
              obtain rfl := Option.some.inj H
              have p106 : 0 ≤ (x8_1 : Int) := of_decide_eq_true (by first | (with_reducible assumption) | assumption)
              have q106 : x8_1 < (l0.length : Int) := of_decide_eq_true (by first | (with_reducible assumption) | assumption)
              obtain ⟨ad106, e106, hx106_0⟩ := Kd.at_string HR0.out x8_1 p106 q106
              cases e106
              replace p106 := eq_true p106
              replace q106 := eq_true q106
              go_wp2
              go_ret
              exact ⟨by first | rfl | (simp; done) | (simp [*]; done), by repeat (first | exact Drawn0.refl _ | apply Drawn0.step)⟩
            · rw [if_neg c6] at H
              have c6b0 : (a1.toList == (rdOf ByteArray.empty l0 x8_1).toList) = false := beq_eq_false_iff_ne.mpr c6
              have c6b1 : (a1.toList != (rdOf ByteArray.empty l0 x8_1).toList) = true := bne_iff_ne.mpr c6
              have H' := Aside0.mk H
              clear H
              have p106 : 0 ≤ (x8_1 : Int) := of_decide_eq_true (by first | (with_reducible assumption) | assumption)
              have q106 : x8_1 < (l0.length : Int) := of_decide_eq_true (by first | (with_reducible assumption) | assumption)
              obtain ⟨ad106, e106, hx106_0⟩ := Kd.at_string HR0.out x8_1 p106 q106
              cases e106
              replace p106 := eq_true p106
              replace q106 := eq_true q106
              go_wp2
              go_roundg k1
              case measure => have := HK1.out; omega
              case rel => exact ⟨(wrap64 (x8_1 + 1)), (by first | rfl | (simp; done) | (simp [*]; done)), H', ⟨by have := HK1.out; omega⟩, by repeat (first | exact Drawn0.refl _ | apply Drawn0.step)⟩
          · rw [if_neg c5] at H
            exact absurd H (by simp)
        · rw [if_neg c4] at H
          exact absurd H (by simp)
      · rw [if_neg c3] at H
        have c3b0 : decide (x8_1 < (l0.length : Int)) = false := decide_eq_false c3
        clear c3
        obtain rfl := Option.some.inj H
        go_wp2
        go_ret
        exact ⟨by first | rfl | (simp; done) | (simp [*]; done), by repeat (first | exact Drawn0.refl _ | apply Drawn0.step)⟩
def slices_Contains_string_string.f (k : Nat) (l0 : List ByteArray) (a1 : ByteArray) : Option (Bool) := (slices_Index_string_string.f k l0 a1).bind fun t107 => (some (decide (t107 ≥ 0)))
theorem slices_Contains_string_string.mono : ∀ a0 a1 k, LeO (slices_Contains_string_string.f k a0 a1) (slices_Contains_string_string.f (k + 1) a0 a1) := by
  intro a0 a1 k
  unfold slices_Contains_string_string.f
  repeat' first
      | (with_reducible exact slices_Index_string_string.mono _ _ _)
      | (with_reducible exact LeO.refl _)
      | (with_reducible exact LeO.none _)
      | (with_reducible refine LeO.ite ?_ ?_)
      | (with_reducible refine LeO.bind ?_ (fun _ => ?_))
      | exact slices_Index_string_string.mono _ _ _
      | exact LeO.none _
      | refine LeO.ite ?_ ?_
      | refine LeO.bind ?_ (fun _ => ?_)
set_option maxHeartbeats 8000000 in
set_option maxRecDepth 100000 in
theorem slices_Contains_string_string.calls (k : Nat) (A0 : Option Addr) (c0 : Nat) (l0 : List ByteArray) (a1 : ByteArray) (r : Bool) (w : World) (hr0 : Kd.C Kd.string w A0 l0.length l0) (hc0 : l0.length ≤ c0) (h : slices_Contains_string_string.f k l0 a1 = some r) :
    Calls Tryd.prog 57 #[.slice A0 l0.length c0, .string a1] w fun e w' => e = .returned (.bool r) ∧ Drawn0 w w' := by
  have HR0 := Aside0.mk hr0
  have HC0 := Aside0.mk hc0
  clear hr0 hc0
  have H : ((slices_Index_string_string.f k l0 a1).bind fun t107 => (some (decide (t107 ≥ 0)))) = some r := h
  clear h
  replace H := Option.bind_eq_some_iff.mp H
  obtain ⟨t107, A30, H⟩ := H
  replace H : (some (decide (t107 ≥ 0))) = some r := H
  have A3 := Aside0.mk A30
  clear A30
  obtain rfl := Option.some.inj H
  go_enter Tryd.func57, Tryd.ntmps57
  go_wp2_with (first | ((with_reducible refine gate_callee (f := 29) rfl ?_); refine goesL_ (some 7) rfl rfl Tryd.func29 (by kernel_rfl) rfl #[.slice A0 l0.length c0, .string a1] rfl (by (try simp only [List.map_toArray, List.map_cons, List.map_nil]); first | done | rfl | (simp only [List.length_drop, List.length_take]; rfl)) ?_; (with_reducible refine (slices_Index_string_string.calls k _ _ l0 a1 t107 _ ?side1 ?side2 A3.out).mono ?_); (case side1 => repeat (first | exact HR0.out | (with_reducible refine Kd.C_alloc ?_ _) | (with_reducible refine Kd.C_drewN ?_ _) | (with_reducible refine Kd.C_drew ?_))); (case side2 => exact HC0.out); rintro e w' ⟨rfl, ⟨nd, rfl⟩⟩; refine ⟨_, rfl, ?_⟩))
  go_ret
  exact ⟨by first | rfl | (simp; done) | (simp [*]; done), by repeat (first | exact Drawn0.refl _ | apply Drawn0.step)⟩
def expr_reserved.f (k : Nat) (a0 : ByteArray) : Option (Bool) := (slices_Contains_string_string.f k (([(⟨#[116, 114, 117, 101]⟩ : ByteArray), (⟨#[102, 97, 108, 115, 101]⟩ : ByteArray), (⟨#[110, 111, 116]⟩ : ByteArray), (⟨#[97, 110, 100]⟩ : ByteArray), (⟨#[111, 114]⟩ : ByteArray), (⟨#[97, 116]⟩ : ByteArray), (⟨#[116, 105, 109, 101]⟩ : ByteArray), (⟨#[122, 111, 110, 101]⟩ : ByteArray)] : List ByteArray)) a0).bind fun t118 => (some t118)
theorem expr_reserved.mono : ∀ a0 k, LeO (expr_reserved.f k a0) (expr_reserved.f (k + 1) a0) := by
  intro a0 k
  unfold expr_reserved.f
  repeat' first
      | (with_reducible exact slices_Contains_string_string.mono _ _ _)
      | (with_reducible exact LeO.refl _)
      | (with_reducible exact LeO.none _)
      | (with_reducible refine LeO.ite ?_ ?_)
      | (with_reducible refine LeO.bind ?_ (fun _ => ?_))
      | exact slices_Contains_string_string.mono _ _ _
      | exact LeO.none _
      | refine LeO.ite ?_ ?_
      | refine LeO.bind ?_ (fun _ => ?_)
set_option maxHeartbeats 8000000 in
set_option maxRecDepth 100000 in
theorem expr_reserved.calls (k : Nat) (a0 : ByteArray) (r : Bool) (w : World) (h : expr_reserved.f k a0 = some r) :
    Calls Tryd.prog 89 #[.string a0] w fun e w' => e = .returned (.bool r) ∧ Below w.heap.size w w' := by
  have HB := Aside0.mk (Below.refl w.heap.size w)
  have H : ((slices_Contains_string_string.f k (([(⟨#[116, 114, 117, 101]⟩ : ByteArray), (⟨#[102, 97, 108, 115, 101]⟩ : ByteArray), (⟨#[110, 111, 116]⟩ : ByteArray), (⟨#[97, 110, 100]⟩ : ByteArray), (⟨#[111, 114]⟩ : ByteArray), (⟨#[97, 116]⟩ : ByteArray), (⟨#[116, 105, 109, 101]⟩ : ByteArray), (⟨#[122, 111, 110, 101]⟩ : ByteArray)] : List ByteArray)) a0).bind fun t118 => (some t118)) = some r := h
  clear h
  obtain ⟨y115, hy115⟩ : ∃ y_ : List ByteArray, y_ = (([(⟨#[116, 114, 117, 101]⟩ : ByteArray), (⟨#[102, 97, 108, 115, 101]⟩ : ByteArray), (⟨#[110, 111, 116]⟩ : ByteArray), (⟨#[97, 110, 100]⟩ : ByteArray), (⟨#[111, 114]⟩ : ByteArray), (⟨#[97, 116]⟩ : ByteArray), (⟨#[116, 105, 109, 101]⟩ : ByteArray), (⟨#[122, 111, 110, 101]⟩ : ByteArray)] : List ByteArray)) := ⟨_, rfl⟩
  replace H : ((slices_Contains_string_string.f k y115 a0).bind fun t118 => (some t118)) = some r := by first | (rw [hy115]; with_reducible exact H) | (have H2_ := (Option.bind_some _ _).symm.trans H; rw [hy115]; with_reducible exact H2_) | (have H2_ := (Option.bind_some _ _).symm.trans H; with_reducible exact H2_) | with_reducible exact H | (rw [hy115]; exact H) | exact H
  have Ny115 := Aside0.mk hy115
  clear hy115
  replace H := Option.bind_eq_some_iff.mp H
  obtain ⟨t118, A20, H⟩ := H
  replace H : (some t118) = some r := H
  have A2 := Aside0.mk A20
  clear A20
  obtain rfl := Option.some.inj H
  go_enter Tryd.func89, Tryd.ntmps89
  go_wp2_with (first | ((with_reducible refine gate_dst (N := 3) rfl ?_); refine Kd.R_lit Kd.string _ 9 ?hg (N := 3) ?hd (xs := ([(⟨#[116, 114, 117, 101]⟩ : ByteArray), (⟨#[102, 97, 108, 115, 101]⟩ : ByteArray), (⟨#[110, 111, 116]⟩ : ByteArray), (⟨#[97, 110, 100]⟩ : ByteArray), (⟨#[111, 114]⟩ : ByteArray), (⟨#[97, 116]⟩ : ByteArray), (⟨#[116, 105, 109, 101]⟩ : ByteArray), (⟨#[122, 111, 110, 101]⟩ : ByteArray)] : List ByteArray)) (inner := [.string (⟨#[116, 114, 117, 101]⟩ : ByteArray), .string (⟨#[102, 97, 108, 115, 101]⟩ : ByteArray), .string (⟨#[110, 111, 116]⟩ : ByteArray), .string (⟨#[97, 110, 100]⟩ : ByteArray), .string (⟨#[111, 114]⟩ : ByteArray), .string (⟨#[97, 116]⟩ : ByteArray), .string (⟨#[116, 105, 109, 101]⟩ : ByteArray), .string (⟨#[122, 111, 110, 101]⟩ : ByteArray)]) (ok := fun _ => True) (okp := fun _ => True) ?hr ?hp (fun _ hk => hk) trivial (Below.refl _ _) (Nat.le_refl _) (by simp) ?_; (case hd => rfl); (case hg => rfl); (case hr => first | (go_simp; done) | (go_simp; rfl)); (case hp => exact (Reps.one (show Kd.M Kd.string _ _ _ (⟨#[116, 114, 117, 101]⟩ : ByteArray) [.string (⟨#[116, 114, 117, 101]⟩ : ByteArray)] from rfl) (Reps.one (show Kd.M Kd.string _ _ _ (⟨#[102, 97, 108, 115, 101]⟩ : ByteArray) [.string (⟨#[102, 97, 108, 115, 101]⟩ : ByteArray)] from rfl) (Reps.one (show Kd.M Kd.string _ _ _ (⟨#[110, 111, 116]⟩ : ByteArray) [.string (⟨#[110, 111, 116]⟩ : ByteArray)] from rfl) (Reps.one (show Kd.M Kd.string _ _ _ (⟨#[97, 110, 100]⟩ : ByteArray) [.string (⟨#[97, 110, 100]⟩ : ByteArray)] from rfl) (Reps.one (show Kd.M Kd.string _ _ _ (⟨#[111, 114]⟩ : ByteArray) [.string (⟨#[111, 114]⟩ : ByteArray)] from rfl) (Reps.one (show Kd.M Kd.string _ _ _ (⟨#[97, 116]⟩ : ByteArray) [.string (⟨#[97, 116]⟩ : ByteArray)] from rfl) (Reps.one (show Kd.M Kd.string _ _ _ (⟨#[116, 105, 109, 101]⟩ : ByteArray) [.string (⟨#[116, 105, 109, 101]⟩ : ByteArray)] from rfl) (Reps.one (show Kd.M Kd.string _ _ _ (⟨#[122, 111, 110, 101]⟩ : ByteArray) [.string (⟨#[122, 111, 110, 101]⟩ : ByteArray)] from rfl) (Reps.none _ _)))))))))); intro v116 w3 ho4 hb hg_ hnew_; clear hg_ hnew_; (first | rw [← Ny115.out] at ho4 | (simp only [Int.reduceToNat] at ho4; rw [← Ny115.out] at ho4)); have n0_ := Aside0.mk (Kd.R_lower ho4 (below_size (by repeat (first | (with_reducible first | exact HB.out | apply below_alloc | apply pw_below_drewN | apply below_drew1) | exact HB.out)))); have n1_ := Aside0.mk (below_step (by repeat (first | (with_reducible first | exact HB.out | apply below_alloc | apply pw_below_drewN | apply below_drew1) | exact HB.out)) hb); clear HB; have HO117 := n0_; have HB := n1_; clear n0_ n1_; clear hb ho4; obtain ⟨Ao5, co5, eo5⟩ := Kd.R_slice HO117.out; subst eo5) | ((with_reducible refine gate_callee (f := 57) rfl ?_); refine goesL_ (some 5) rfl rfl Tryd.func57 (by kernel_rfl) rfl #[.slice Ao5 y115.length co5, .string a0] rfl (by (try simp only [List.map_toArray, List.map_cons, List.map_nil]); first | done | rfl | (simp only [List.length_drop, List.length_take]; rfl)) ?_; (with_reducible refine (slices_Contains_string_string.calls k _ _ y115 a0 t118 _ ?side1 ?side2 A2.out).mono ?_); (case side1 => repeat (first | exact (Kd.R_reads' HO117.out).2.2 | (with_reducible refine Kd.C_alloc ?_ _) | (with_reducible refine Kd.C_drewN ?_ _) | (with_reducible refine Kd.C_drew ?_))); (case side2 => exact (Kd.R_reads' HO117.out).2.1); rintro e w' ⟨rfl, ⟨nd, rfl⟩⟩; refine ⟨_, rfl, ?_⟩))
  go_ret
  exact ⟨by first | rfl | (simp [errW_none, errW_some] <;> rfl) | (simp [*, errW_none, errW_some] <;> rfl), by repeat (first | (with_reducible first | exact HB.out | apply below_alloc | apply pw_below_drewN | apply below_drew1) | exact HB.out)⟩
def kind_names.f  : Option (List ByteArray) := some (([(⟨#[98, 111, 111, 108]⟩ : ByteArray), (⟨#[105, 110, 116]⟩ : ByteArray), (⟨#[110, 117, 109, 101, 114, 105, 99]⟩ : ByteArray), (⟨#[116, 101, 120, 116]⟩ : ByteArray), (⟨#[100, 97, 116, 101]⟩ : ByteArray), (⟨#[116, 105, 109, 101, 115, 116, 97, 109, 112]⟩ : ByteArray), (⟨#[116, 105, 109, 101, 115, 116, 97, 109, 112, 116, 122]⟩ : ByteArray), (⟨#[105, 110, 116, 101, 114, 118, 97, 108]⟩ : ByteArray)] : List ByteArray))
set_option maxHeartbeats 8000000 in
set_option maxRecDepth 100000 in
theorem kind_names.calls  (r : List ByteArray) (w : World) (h : kind_names.f  = some r) :
    Calls Tryd.prog 25 #[] w fun e w' => ∃ v0_ : Value, e = .returned (v0_) ∧ Kd.R Kd.string 9 w' w.heap.size (fun _ => True) v0_ r ∧ Below w.heap.size w w' := by
  have HB := Aside0.mk (Below.refl w.heap.size w)
  have H : (some (([(⟨#[98, 111, 111, 108]⟩ : ByteArray), (⟨#[105, 110, 116]⟩ : ByteArray), (⟨#[110, 117, 109, 101, 114, 105, 99]⟩ : ByteArray), (⟨#[116, 101, 120, 116]⟩ : ByteArray), (⟨#[100, 97, 116, 101]⟩ : ByteArray), (⟨#[116, 105, 109, 101, 115, 116, 97, 109, 112]⟩ : ByteArray), (⟨#[116, 105, 109, 101, 115, 116, 97, 109, 112, 116, 122]⟩ : ByteArray), (⟨#[105, 110, 116, 101, 114, 118, 97, 108]⟩ : ByteArray)] : List ByteArray))) = some r := h
  clear h
  obtain ⟨y131, hy131⟩ : ∃ y_ : List ByteArray, y_ = (([(⟨#[98, 111, 111, 108]⟩ : ByteArray), (⟨#[105, 110, 116]⟩ : ByteArray), (⟨#[110, 117, 109, 101, 114, 105, 99]⟩ : ByteArray), (⟨#[116, 101, 120, 116]⟩ : ByteArray), (⟨#[100, 97, 116, 101]⟩ : ByteArray), (⟨#[116, 105, 109, 101, 115, 116, 97, 109, 112]⟩ : ByteArray), (⟨#[116, 105, 109, 101, 115, 116, 97, 109, 112, 116, 122]⟩ : ByteArray), (⟨#[105, 110, 116, 101, 114, 118, 97, 108]⟩ : ByteArray)] : List ByteArray)) := ⟨_, rfl⟩
  replace H : (some y131) = some r := by first | (rw [hy131]; with_reducible exact H) | (have H2_ := (Option.bind_some _ _).symm.trans H; rw [hy131]; with_reducible exact H2_) | (have H2_ := (Option.bind_some _ _).symm.trans H; with_reducible exact H2_) | with_reducible exact H | (rw [hy131]; exact H) | exact H
  have Ny131 := Aside0.mk hy131
  clear hy131
  obtain rfl := Option.some.inj H
  go_enter Tryd.func25, Tryd.ntmps25
  go_wp2_with (first | ((with_reducible refine gate_dst (N := 1) rfl ?_); refine Kd.R_lit Kd.string _ 9 ?hg (N := 1) ?hd (xs := ([(⟨#[98, 111, 111, 108]⟩ : ByteArray), (⟨#[105, 110, 116]⟩ : ByteArray), (⟨#[110, 117, 109, 101, 114, 105, 99]⟩ : ByteArray), (⟨#[116, 101, 120, 116]⟩ : ByteArray), (⟨#[100, 97, 116, 101]⟩ : ByteArray), (⟨#[116, 105, 109, 101, 115, 116, 97, 109, 112]⟩ : ByteArray), (⟨#[116, 105, 109, 101, 115, 116, 97, 109, 112, 116, 122]⟩ : ByteArray), (⟨#[105, 110, 116, 101, 114, 118, 97, 108]⟩ : ByteArray)] : List ByteArray)) (inner := [.string (⟨#[98, 111, 111, 108]⟩ : ByteArray), .string (⟨#[105, 110, 116]⟩ : ByteArray), .string (⟨#[110, 117, 109, 101, 114, 105, 99]⟩ : ByteArray), .string (⟨#[116, 101, 120, 116]⟩ : ByteArray), .string (⟨#[100, 97, 116, 101]⟩ : ByteArray), .string (⟨#[116, 105, 109, 101, 115, 116, 97, 109, 112]⟩ : ByteArray), .string (⟨#[116, 105, 109, 101, 115, 116, 97, 109, 112, 116, 122]⟩ : ByteArray), .string (⟨#[105, 110, 116, 101, 114, 118, 97, 108]⟩ : ByteArray)]) (ok := fun _ => True) (okp := fun _ => True) ?hr ?hp (fun _ hk => hk) trivial (Below.refl _ _) (Nat.le_refl _) (by simp) ?_; (case hd => rfl); (case hg => rfl); (case hr => first | (go_simp; done) | (go_simp; rfl)); (case hp => exact (Reps.one (show Kd.M Kd.string _ _ _ (⟨#[98, 111, 111, 108]⟩ : ByteArray) [.string (⟨#[98, 111, 111, 108]⟩ : ByteArray)] from rfl) (Reps.one (show Kd.M Kd.string _ _ _ (⟨#[105, 110, 116]⟩ : ByteArray) [.string (⟨#[105, 110, 116]⟩ : ByteArray)] from rfl) (Reps.one (show Kd.M Kd.string _ _ _ (⟨#[110, 117, 109, 101, 114, 105, 99]⟩ : ByteArray) [.string (⟨#[110, 117, 109, 101, 114, 105, 99]⟩ : ByteArray)] from rfl) (Reps.one (show Kd.M Kd.string _ _ _ (⟨#[116, 101, 120, 116]⟩ : ByteArray) [.string (⟨#[116, 101, 120, 116]⟩ : ByteArray)] from rfl) (Reps.one (show Kd.M Kd.string _ _ _ (⟨#[100, 97, 116, 101]⟩ : ByteArray) [.string (⟨#[100, 97, 116, 101]⟩ : ByteArray)] from rfl) (Reps.one (show Kd.M Kd.string _ _ _ (⟨#[116, 105, 109, 101, 115, 116, 97, 109, 112]⟩ : ByteArray) [.string (⟨#[116, 105, 109, 101, 115, 116, 97, 109, 112]⟩ : ByteArray)] from rfl) (Reps.one (show Kd.M Kd.string _ _ _ (⟨#[116, 105, 109, 101, 115, 116, 97, 109, 112, 116, 122]⟩ : ByteArray) [.string (⟨#[116, 105, 109, 101, 115, 116, 97, 109, 112, 116, 122]⟩ : ByteArray)] from rfl) (Reps.one (show Kd.M Kd.string _ _ _ (⟨#[105, 110, 116, 101, 114, 118, 97, 108]⟩ : ByteArray) [.string (⟨#[105, 110, 116, 101, 114, 118, 97, 108]⟩ : ByteArray)] from rfl) (Reps.none _ _)))))))))); intro v132 w1 ho2 hb hg_ hnew_; clear hg_ hnew_; (first | rw [← Ny131.out] at ho2 | (simp only [Int.reduceToNat] at ho2; rw [← Ny131.out] at ho2)); have n0_ := Aside0.mk (Kd.R_lower ho2 (below_size (by repeat (first | (with_reducible first | exact HB.out | apply below_alloc | apply pw_below_drewN | apply below_drew1) | exact HB.out)))); have n1_ := Aside0.mk (below_step (by repeat (first | (with_reducible first | exact HB.out | apply below_alloc | apply pw_below_drewN | apply below_drew1) | exact HB.out)) hb); clear HB; have HO133 := n0_; have HB := n1_; clear n0_ n1_; clear hb ho2))
  go_ret
  exact ⟨_, by first | rfl | (simp [errW_none, errW_some] <;> rfl) | (simp [*, errW_none, errW_some] <;> rfl), by (with_reducible repeat (first | apply Kd.R_alloc | apply Kd.R_drewN | apply Kd.R_drew)); exact HO133.out, by repeat (first | (with_reducible first | exact HB.out | apply below_alloc | apply pw_below_drewN | apply below_drew1) | exact HB.out)⟩
def kind_Name.f (a0 : Int) : Option (ByteArray) := if a0 < 1 then (some (⟨#[]⟩ : ByteArray)) else (if a0 > 8 then (some (⟨#[]⟩ : ByteArray)) else ((kind_names.f).bind fun t134 => (if 0 ≤ (wrap64 (a0 - 1)) then (if (wrap64 (a0 - 1)) < (t134.length : Int) then (some (rdOf ByteArray.empty t134 (wrap64 (a0 - 1)))) else (none)) else (none))))
set_option maxHeartbeats 8000000 in
set_option maxRecDepth 100000 in
theorem kind_Name.calls (a0 : Int) (r : ByteArray) (w : World) (h : kind_Name.f a0 = some r) :
    Calls Tryd.prog 10 #[.int .i64 a0] w fun e w' => e = .returned (.string r) ∧ Below w.heap.size w w' := by
  have HB := Aside0.mk (Below.refl w.heap.size w)
  have H : (if a0 < 1 then (some (⟨#[]⟩ : ByteArray)) else (if a0 > 8 then (some (⟨#[]⟩ : ByteArray)) else ((kind_names.f).bind fun t134 => (if 0 ≤ (wrap64 (a0 - 1)) then (if (wrap64 (a0 - 1)) < (t134.length : Int) then (some (rdOf ByteArray.empty t134 (wrap64 (a0 - 1)))) else (none)) else (none))))) = some r := h
  clear h
  by_cases c2 : a0 < 1
  · rw [if_pos c2] at H
    have c2b0 : decide (a0 < 1) = true := decide_eq_true c2
    clear c2
    obtain rfl := Option.some.inj H
    go_enter Tryd.func10, Tryd.ntmps10
    go_wp2
    go_ret
    exact ⟨by first | rfl | (simp [errW_none, errW_some] <;> rfl) | (simp [*, errW_none, errW_some] <;> rfl), by repeat (first | (with_reducible first | exact HB.out | apply below_alloc | apply pw_below_drewN | apply below_drew1) | exact HB.out)⟩
  · rw [if_neg c2] at H
    have c2b0 : decide (a0 < 1) = false := decide_eq_false c2
    clear c2
    by_cases c3 : a0 > 8
    · rw [if_pos c3] at H
      have c3b0 : decide (8 < a0) = true := decide_eq_true c3
      clear c3
      obtain rfl := Option.some.inj H
      go_enter Tryd.func10, Tryd.ntmps10
      go_wp2
      go_ret
      exact ⟨by first | rfl | (simp [errW_none, errW_some] <;> rfl) | (simp [*, errW_none, errW_some] <;> rfl), by repeat (first | (with_reducible first | exact HB.out | apply below_alloc | apply pw_below_drewN | apply below_drew1) | exact HB.out)⟩
    · rw [if_neg c3] at H
      have c3b0 : decide (8 < a0) = false := decide_eq_false c3
      clear c3
      replace H := Option.bind_eq_some_iff.mp H
      obtain ⟨t134, A40, H⟩ := H
      replace H : (if 0 ≤ (wrap64 (a0 - 1)) then (if (wrap64 (a0 - 1)) < (t134.length : Int) then (some (rdOf ByteArray.empty t134 (wrap64 (a0 - 1)))) else (none)) else (none)) = some r := H
      have A4 := Aside0.mk A40
      clear A40
      obtain ⟨ji5, hji5⟩ : ∃ j_ : Int, (wrap64 (a0 - 1)) = j_ := ⟨_, rfl⟩
      replace H : (if 0 ≤ (ji5) then (if (ji5) < (t134.length : Int) then (some (rdOf ByteArray.empty t134 (ji5))) else (none)) else (none)) = some r := by first | (rw [hji5] at H; exact H) | (simp only [hji5] at H ⊢; exact H)
      (try rw [hji5] at A4)
      have hji5w : (IntKind.i64.wrap (a0 - 1)) = ji5 := (i64_w _).trans hji5
      by_cases c6 : 0 ≤ (ji5)
      · rw [if_pos c6] at H
        have c6b0 : decide (0 ≤ (ji5)) = true := decide_eq_true c6
        clear c6
        by_cases c7 : (ji5) < (t134.length : Int)
        · rw [if_pos c7] at H
          have c7b0 : decide ((ji5) < (t134.length : Int)) = true := decide_eq_true c7
          clear c7
          obtain rfl := Option.some.inj H
          go_enter Tryd.func10, Tryd.ntmps10
          go_wp2_with (first | ((with_reducible refine gate_callee (f := 25) rfl ?_); refine goesL_ (some 9) rfl rfl Tryd.func25 (by kernel_rfl) rfl #[] rfl (by (try simp only [List.map_toArray, List.map_cons, List.map_nil]); first | done | rfl | (simp only [List.length_drop, List.length_take]; rfl)) ?_; (with_reducible refine (kind_names.calls  t134 _ A4.out).mono ?_); rintro e w8 ⟨v135, rfl, ho0, hb⟩; refine ⟨_, rfl, ?_⟩; have n0_ := Aside0.mk (Kd.R_lower ho0 (below_size (by repeat (first | (with_reducible first | exact HB.out | apply below_alloc | apply pw_below_drewN | apply below_drew1) | exact HB.out)))); have n1_ := Aside0.mk (below_step (by repeat (first | (with_reducible first | exact HB.out | apply below_alloc | apply pw_below_drewN | apply below_drew1) | exact HB.out)) hb); clear HB; have HO136 := n0_; have HB := n1_; clear n0_ n1_; (try clear hb); (try clear hb2); (try clear hk); (try clear hi); (try clear ho0); obtain ⟨Ao9, co9, eo9⟩ := Kd.R_slice HO136.out; subst eo9; have p137 : 0 ≤ ((ji5) : Int) := of_decide_eq_true (by first | (with_reducible assumption) | assumption); have q137 : (ji5) < (t134.length : Int) := of_decide_eq_true (by first | (with_reducible assumption) | assumption); obtain ⟨ad137, e137, hx137_0⟩ := Kd.at_string (Kd.R_reads' HO136.out).2.2 (ji5) p137 q137; cases e137; replace p137 := eq_true p137; replace q137 := eq_true q137))
          go_ret
          exact ⟨by first | rfl | (simp [errW_none, errW_some] <;> rfl) | (simp only [← hji5]; first | rfl | (simp [errW_none, errW_some] <;> rfl)) | (simp [*, errW_none, errW_some] <;> rfl), by repeat (first | (with_reducible first | exact HB.out | apply below_alloc | apply pw_below_drewN | apply below_drew1) | exact HB.out)⟩
        · rw [if_neg c7] at H
          exact absurd H (by simp)
      · rw [if_neg c6] at H
        exact absurd H (by simp)
def kind_table.f  : Option ((List (S50))) := some (([(⟨(⟨#[43]⟩ : ByteArray), (⟨#[105, 105, 105, 32, 110, 110, 110, 32, 105, 110, 110, 32, 110, 105, 110, 32, 100, 105, 100, 32, 105, 100, 100, 32, 100, 118, 115, 32, 118, 100, 115, 32, 115, 118, 115, 32, 118, 115, 115, 32, 122, 118, 122, 32, 118, 122, 122, 32, 118, 118, 118]⟩ : ByteArray)⟩ : S50), (⟨(⟨#[45]⟩ : ByteArray), (⟨#[105, 105, 105, 32, 110, 110, 110, 32, 105, 110, 110, 32, 110, 105, 110, 32, 100, 105, 100, 32, 100, 100, 105, 32, 100, 118, 115, 32, 115, 118, 115, 32, 115, 115, 118, 32, 122, 118, 122, 32, 122, 122, 118, 32, 118, 118, 118]⟩ : ByteArray)⟩ : S50), (⟨(⟨#[42]⟩ : ByteArray), (⟨#[105, 105, 105, 32, 110, 110, 110, 32, 105, 110, 110, 32, 110, 105, 110, 32, 118, 105, 118, 32, 105, 118, 118]⟩ : ByteArray)⟩ : S50), (⟨(⟨#[47]⟩ : ByteArray), (⟨#[105, 105, 105]⟩ : ByteArray)⟩ : S50), (⟨(⟨#[37]⟩ : ByteArray), (⟨#[105, 105, 105]⟩ : ByteArray)⟩ : S50), (⟨(⟨#[97, 110, 100]⟩ : ByteArray), (⟨#[98, 98, 98]⟩ : ByteArray)⟩ : S50), (⟨(⟨#[111, 114]⟩ : ByteArray), (⟨#[98, 98, 98]⟩ : ByteArray)⟩ : S50), (⟨(⟨#[110, 111, 116]⟩ : ByteArray), (⟨#[98, 98]⟩ : ByteArray)⟩ : S50), (⟨(⟨#[110, 101, 103]⟩ : ByteArray), (⟨#[105, 105, 32, 110, 110, 32, 118, 118]⟩ : ByteArray)⟩ : S50), (⟨(⟨#[97, 116, 32, 116, 105, 109, 101, 32, 122, 111, 110, 101]⟩ : ByteArray), (⟨#[115, 116, 122, 32, 122, 116, 115]⟩ : ByteArray)⟩ : S50), (⟨(⟨#[58, 58, 116, 101, 120, 116]⟩ : ByteArray), (⟨#[105, 116, 32, 110, 116, 32, 98, 116, 32, 116, 116, 32, 100, 116, 32, 115, 116, 32, 122, 116, 32, 118, 116]⟩ : ByteArray)⟩ : S50), (⟨(⟨#[58, 58, 100, 97, 116, 101]⟩ : ByteArray), (⟨#[116, 100, 32, 100, 100, 32, 115, 100, 32, 122, 100]⟩ : ByteArray)⟩ : S50), (⟨(⟨#[58, 58, 116, 105, 109, 101, 115, 116, 97, 109, 112]⟩ : ByteArray), (⟨#[116, 115, 32, 100, 115, 32, 115, 115, 32, 122, 115]⟩ : ByteArray)⟩ : S50), (⟨(⟨#[58, 58, 116, 105, 109, 101, 115, 116, 97, 109, 112, 116, 122]⟩ : ByteArray), (⟨#[116, 122, 32, 100, 122, 32, 115, 122, 32, 122, 122]⟩ : ByteArray)⟩ : S50), (⟨(⟨#[58, 58, 105, 110, 116, 101, 114, 118, 97, 108]⟩ : ByteArray), (⟨#[116, 118, 32, 118, 118]⟩ : ByteArray)⟩ : S50), (⟨(⟨#[58, 58, 105, 110, 116]⟩ : ByteArray), (⟨#[116, 105, 32, 105, 105, 32, 110, 105]⟩ : ByteArray)⟩ : S50), (⟨(⟨#[58, 58, 110, 117, 109, 101, 114, 105, 99]⟩ : ByteArray), (⟨#[116, 110, 32, 105, 110, 32, 110, 110]⟩ : ByteArray)⟩ : S50), (⟨(⟨#[100, 97, 116, 101, 95, 116, 114, 117, 110, 99]⟩ : ByteArray), (⟨#[116, 115, 115, 32, 116, 122, 122, 32, 116, 122, 116, 122]⟩ : ByteArray)⟩ : S50), (⟨(⟨#[100, 97, 116, 101, 95, 98, 105, 110]⟩ : ByteArray), (⟨#[118, 115, 115, 115, 32, 118, 122, 122, 122]⟩ : ByteArray)⟩ : S50), (⟨(⟨#[101, 120, 116, 114, 97, 99, 116]⟩ : ByteArray), (⟨#[116, 100, 110, 32, 116, 115, 110, 32, 116, 122, 110, 32, 116, 118, 110]⟩ : ByteArray)⟩ : S50), (⟨(⟨#[97, 103, 101]⟩ : ByteArray), (⟨#[115, 115, 118]⟩ : ByteArray)⟩ : S50), (⟨(⟨#[106, 117, 115, 116, 105, 102, 121]⟩ : ByteArray), (⟨#[118, 118]⟩ : ByteArray)⟩ : S50), (⟨(⟨#[109, 97, 107, 101, 95, 100, 97, 116, 101]⟩ : ByteArray), (⟨#[105, 105, 105, 100]⟩ : ByteArray)⟩ : S50), (⟨(⟨#[105, 115, 102, 105, 110, 105, 116, 101]⟩ : ByteArray), (⟨#[100, 98, 32, 115, 98, 32, 122, 98, 32, 118, 98]⟩ : ByteArray)⟩ : S50), (⟨(⟨#[111, 118, 101, 114, 108, 97, 112, 115]⟩ : ByteArray), (⟨#[115, 115, 115, 115, 98, 32, 122, 122, 122, 122, 98]⟩ : ByteArray)⟩ : S50), (⟨(⟨#[103, 101, 110, 101, 114, 97, 116, 101, 95, 115, 101, 114, 105, 101, 115]⟩ : ByteArray), (⟨#[105, 105, 105, 105, 32, 115, 115, 118, 115, 32, 122, 122, 118, 122]⟩ : ByteArray)⟩ : S50), (⟨(⟨#[61]⟩ : ByteArray), (⟨#[105, 105, 98, 32, 110, 110, 98, 32, 105, 110, 98, 32, 110, 105, 98, 32, 116, 116, 98, 32, 100, 100, 98, 32, 115, 115, 98, 32, 122, 122, 98, 32, 118, 118, 98, 32, 98, 98, 98]⟩ : ByteArray)⟩ : S50), (⟨(⟨#[60, 62]⟩ : ByteArray), (⟨#[105, 105, 98, 32, 110, 110, 98, 32, 105, 110, 98, 32, 110, 105, 98, 32, 116, 116, 98, 32, 100, 100, 98, 32, 115, 115, 98, 32, 122, 122, 98, 32, 118, 118, 98, 32, 98, 98, 98]⟩ : ByteArray)⟩ : S50), (⟨(⟨#[60]⟩ : ByteArray), (⟨#[105, 105, 98, 32, 110, 110, 98, 32, 105, 110, 98, 32, 110, 105, 98, 32, 116, 116, 98, 32, 100, 100, 98, 32, 115, 115, 98, 32, 122, 122, 98, 32, 118, 118, 98]⟩ : ByteArray)⟩ : S50), (⟨(⟨#[60, 61]⟩ : ByteArray), (⟨#[105, 105, 98, 32, 110, 110, 98, 32, 105, 110, 98, 32, 110, 105, 98, 32, 116, 116, 98, 32, 100, 100, 98, 32, 115, 115, 98, 32, 122, 122, 98, 32, 118, 118, 98]⟩ : ByteArray)⟩ : S50), (⟨(⟨#[62]⟩ : ByteArray), (⟨#[105, 105, 98, 32, 110, 110, 98, 32, 105, 110, 98, 32, 110, 105, 98, 32, 116, 116, 98, 32, 100, 100, 98, 32, 115, 115, 98, 32, 122, 122, 98, 32, 118, 118, 98]⟩ : ByteArray)⟩ : S50), (⟨(⟨#[62, 61]⟩ : ByteArray), (⟨#[105, 105, 98, 32, 110, 110, 98, 32, 105, 110, 98, 32, 110, 105, 98, 32, 116, 116, 98, 32, 100, 100, 98, 32, 115, 115, 98, 32, 122, 122, 98, 32, 118, 118, 98]⟩ : ByteArray)⟩ : S50)] : List (S50)))
set_option maxHeartbeats 8000000 in
set_option maxRecDepth 100000 in
theorem kind_table.calls  (r : List (S50)) (w : World) (h : kind_table.f  = some r) :
    Calls Tryd.prog 18 #[] w fun e w' => ∃ v0_ : Value, e = .returned (v0_) ∧ Kd.R k50 50 w' w.heap.size (fun _ => True) v0_ r ∧ Below w.heap.size w w' := by
  have hu50 := Tryd.underlying50
  have HB := Aside0.mk (Below.refl w.heap.size w)
  have H : (some (([(⟨(⟨#[43]⟩ : ByteArray), (⟨#[105, 105, 105, 32, 110, 110, 110, 32, 105, 110, 110, 32, 110, 105, 110, 32, 100, 105, 100, 32, 105, 100, 100, 32, 100, 118, 115, 32, 118, 100, 115, 32, 115, 118, 115, 32, 118, 115, 115, 32, 122, 118, 122, 32, 118, 122, 122, 32, 118, 118, 118]⟩ : ByteArray)⟩ : S50), (⟨(⟨#[45]⟩ : ByteArray), (⟨#[105, 105, 105, 32, 110, 110, 110, 32, 105, 110, 110, 32, 110, 105, 110, 32, 100, 105, 100, 32, 100, 100, 105, 32, 100, 118, 115, 32, 115, 118, 115, 32, 115, 115, 118, 32, 122, 118, 122, 32, 122, 122, 118, 32, 118, 118, 118]⟩ : ByteArray)⟩ : S50), (⟨(⟨#[42]⟩ : ByteArray), (⟨#[105, 105, 105, 32, 110, 110, 110, 32, 105, 110, 110, 32, 110, 105, 110, 32, 118, 105, 118, 32, 105, 118, 118]⟩ : ByteArray)⟩ : S50), (⟨(⟨#[47]⟩ : ByteArray), (⟨#[105, 105, 105]⟩ : ByteArray)⟩ : S50), (⟨(⟨#[37]⟩ : ByteArray), (⟨#[105, 105, 105]⟩ : ByteArray)⟩ : S50), (⟨(⟨#[97, 110, 100]⟩ : ByteArray), (⟨#[98, 98, 98]⟩ : ByteArray)⟩ : S50), (⟨(⟨#[111, 114]⟩ : ByteArray), (⟨#[98, 98, 98]⟩ : ByteArray)⟩ : S50), (⟨(⟨#[110, 111, 116]⟩ : ByteArray), (⟨#[98, 98]⟩ : ByteArray)⟩ : S50), (⟨(⟨#[110, 101, 103]⟩ : ByteArray), (⟨#[105, 105, 32, 110, 110, 32, 118, 118]⟩ : ByteArray)⟩ : S50), (⟨(⟨#[97, 116, 32, 116, 105, 109, 101, 32, 122, 111, 110, 101]⟩ : ByteArray), (⟨#[115, 116, 122, 32, 122, 116, 115]⟩ : ByteArray)⟩ : S50), (⟨(⟨#[58, 58, 116, 101, 120, 116]⟩ : ByteArray), (⟨#[105, 116, 32, 110, 116, 32, 98, 116, 32, 116, 116, 32, 100, 116, 32, 115, 116, 32, 122, 116, 32, 118, 116]⟩ : ByteArray)⟩ : S50), (⟨(⟨#[58, 58, 100, 97, 116, 101]⟩ : ByteArray), (⟨#[116, 100, 32, 100, 100, 32, 115, 100, 32, 122, 100]⟩ : ByteArray)⟩ : S50), (⟨(⟨#[58, 58, 116, 105, 109, 101, 115, 116, 97, 109, 112]⟩ : ByteArray), (⟨#[116, 115, 32, 100, 115, 32, 115, 115, 32, 122, 115]⟩ : ByteArray)⟩ : S50), (⟨(⟨#[58, 58, 116, 105, 109, 101, 115, 116, 97, 109, 112, 116, 122]⟩ : ByteArray), (⟨#[116, 122, 32, 100, 122, 32, 115, 122, 32, 122, 122]⟩ : ByteArray)⟩ : S50), (⟨(⟨#[58, 58, 105, 110, 116, 101, 114, 118, 97, 108]⟩ : ByteArray), (⟨#[116, 118, 32, 118, 118]⟩ : ByteArray)⟩ : S50), (⟨(⟨#[58, 58, 105, 110, 116]⟩ : ByteArray), (⟨#[116, 105, 32, 105, 105, 32, 110, 105]⟩ : ByteArray)⟩ : S50), (⟨(⟨#[58, 58, 110, 117, 109, 101, 114, 105, 99]⟩ : ByteArray), (⟨#[116, 110, 32, 105, 110, 32, 110, 110]⟩ : ByteArray)⟩ : S50), (⟨(⟨#[100, 97, 116, 101, 95, 116, 114, 117, 110, 99]⟩ : ByteArray), (⟨#[116, 115, 115, 32, 116, 122, 122, 32, 116, 122, 116, 122]⟩ : ByteArray)⟩ : S50), (⟨(⟨#[100, 97, 116, 101, 95, 98, 105, 110]⟩ : ByteArray), (⟨#[118, 115, 115, 115, 32, 118, 122, 122, 122]⟩ : ByteArray)⟩ : S50), (⟨(⟨#[101, 120, 116, 114, 97, 99, 116]⟩ : ByteArray), (⟨#[116, 100, 110, 32, 116, 115, 110, 32, 116, 122, 110, 32, 116, 118, 110]⟩ : ByteArray)⟩ : S50), (⟨(⟨#[97, 103, 101]⟩ : ByteArray), (⟨#[115, 115, 118]⟩ : ByteArray)⟩ : S50), (⟨(⟨#[106, 117, 115, 116, 105, 102, 121]⟩ : ByteArray), (⟨#[118, 118]⟩ : ByteArray)⟩ : S50), (⟨(⟨#[109, 97, 107, 101, 95, 100, 97, 116, 101]⟩ : ByteArray), (⟨#[105, 105, 105, 100]⟩ : ByteArray)⟩ : S50), (⟨(⟨#[105, 115, 102, 105, 110, 105, 116, 101]⟩ : ByteArray), (⟨#[100, 98, 32, 115, 98, 32, 122, 98, 32, 118, 98]⟩ : ByteArray)⟩ : S50), (⟨(⟨#[111, 118, 101, 114, 108, 97, 112, 115]⟩ : ByteArray), (⟨#[115, 115, 115, 115, 98, 32, 122, 122, 122, 122, 98]⟩ : ByteArray)⟩ : S50), (⟨(⟨#[103, 101, 110, 101, 114, 97, 116, 101, 95, 115, 101, 114, 105, 101, 115]⟩ : ByteArray), (⟨#[105, 105, 105, 105, 32, 115, 115, 118, 115, 32, 122, 122, 118, 122]⟩ : ByteArray)⟩ : S50), (⟨(⟨#[61]⟩ : ByteArray), (⟨#[105, 105, 98, 32, 110, 110, 98, 32, 105, 110, 98, 32, 110, 105, 98, 32, 116, 116, 98, 32, 100, 100, 98, 32, 115, 115, 98, 32, 122, 122, 98, 32, 118, 118, 98, 32, 98, 98, 98]⟩ : ByteArray)⟩ : S50), (⟨(⟨#[60, 62]⟩ : ByteArray), (⟨#[105, 105, 98, 32, 110, 110, 98, 32, 105, 110, 98, 32, 110, 105, 98, 32, 116, 116, 98, 32, 100, 100, 98, 32, 115, 115, 98, 32, 122, 122, 98, 32, 118, 118, 98, 32, 98, 98, 98]⟩ : ByteArray)⟩ : S50), (⟨(⟨#[60]⟩ : ByteArray), (⟨#[105, 105, 98, 32, 110, 110, 98, 32, 105, 110, 98, 32, 110, 105, 98, 32, 116, 116, 98, 32, 100, 100, 98, 32, 115, 115, 98, 32, 122, 122, 98, 32, 118, 118, 98]⟩ : ByteArray)⟩ : S50), (⟨(⟨#[60, 61]⟩ : ByteArray), (⟨#[105, 105, 98, 32, 110, 110, 98, 32, 105, 110, 98, 32, 110, 105, 98, 32, 116, 116, 98, 32, 100, 100, 98, 32, 115, 115, 98, 32, 122, 122, 98, 32, 118, 118, 98]⟩ : ByteArray)⟩ : S50), (⟨(⟨#[62]⟩ : ByteArray), (⟨#[105, 105, 98, 32, 110, 110, 98, 32, 105, 110, 98, 32, 110, 105, 98, 32, 116, 116, 98, 32, 100, 100, 98, 32, 115, 115, 98, 32, 122, 122, 98, 32, 118, 118, 98]⟩ : ByteArray)⟩ : S50), (⟨(⟨#[62, 61]⟩ : ByteArray), (⟨#[105, 105, 98, 32, 110, 110, 98, 32, 105, 110, 98, 32, 110, 105, 98, 32, 116, 116, 98, 32, 100, 100, 98, 32, 115, 115, 98, 32, 122, 122, 98, 32, 118, 118, 98]⟩ : ByteArray)⟩ : S50)] : List (S50)))) = some r := h
  clear h
  obtain ⟨y138, hy138⟩ : ∃ y_ : List (S50), y_ = (([(⟨(⟨#[43]⟩ : ByteArray), (⟨#[105, 105, 105, 32, 110, 110, 110, 32, 105, 110, 110, 32, 110, 105, 110, 32, 100, 105, 100, 32, 105, 100, 100, 32, 100, 118, 115, 32, 118, 100, 115, 32, 115, 118, 115, 32, 118, 115, 115, 32, 122, 118, 122, 32, 118, 122, 122, 32, 118, 118, 118]⟩ : ByteArray)⟩ : S50), (⟨(⟨#[45]⟩ : ByteArray), (⟨#[105, 105, 105, 32, 110, 110, 110, 32, 105, 110, 110, 32, 110, 105, 110, 32, 100, 105, 100, 32, 100, 100, 105, 32, 100, 118, 115, 32, 115, 118, 115, 32, 115, 115, 118, 32, 122, 118, 122, 32, 122, 122, 118, 32, 118, 118, 118]⟩ : ByteArray)⟩ : S50), (⟨(⟨#[42]⟩ : ByteArray), (⟨#[105, 105, 105, 32, 110, 110, 110, 32, 105, 110, 110, 32, 110, 105, 110, 32, 118, 105, 118, 32, 105, 118, 118]⟩ : ByteArray)⟩ : S50), (⟨(⟨#[47]⟩ : ByteArray), (⟨#[105, 105, 105]⟩ : ByteArray)⟩ : S50), (⟨(⟨#[37]⟩ : ByteArray), (⟨#[105, 105, 105]⟩ : ByteArray)⟩ : S50), (⟨(⟨#[97, 110, 100]⟩ : ByteArray), (⟨#[98, 98, 98]⟩ : ByteArray)⟩ : S50), (⟨(⟨#[111, 114]⟩ : ByteArray), (⟨#[98, 98, 98]⟩ : ByteArray)⟩ : S50), (⟨(⟨#[110, 111, 116]⟩ : ByteArray), (⟨#[98, 98]⟩ : ByteArray)⟩ : S50), (⟨(⟨#[110, 101, 103]⟩ : ByteArray), (⟨#[105, 105, 32, 110, 110, 32, 118, 118]⟩ : ByteArray)⟩ : S50), (⟨(⟨#[97, 116, 32, 116, 105, 109, 101, 32, 122, 111, 110, 101]⟩ : ByteArray), (⟨#[115, 116, 122, 32, 122, 116, 115]⟩ : ByteArray)⟩ : S50), (⟨(⟨#[58, 58, 116, 101, 120, 116]⟩ : ByteArray), (⟨#[105, 116, 32, 110, 116, 32, 98, 116, 32, 116, 116, 32, 100, 116, 32, 115, 116, 32, 122, 116, 32, 118, 116]⟩ : ByteArray)⟩ : S50), (⟨(⟨#[58, 58, 100, 97, 116, 101]⟩ : ByteArray), (⟨#[116, 100, 32, 100, 100, 32, 115, 100, 32, 122, 100]⟩ : ByteArray)⟩ : S50), (⟨(⟨#[58, 58, 116, 105, 109, 101, 115, 116, 97, 109, 112]⟩ : ByteArray), (⟨#[116, 115, 32, 100, 115, 32, 115, 115, 32, 122, 115]⟩ : ByteArray)⟩ : S50), (⟨(⟨#[58, 58, 116, 105, 109, 101, 115, 116, 97, 109, 112, 116, 122]⟩ : ByteArray), (⟨#[116, 122, 32, 100, 122, 32, 115, 122, 32, 122, 122]⟩ : ByteArray)⟩ : S50), (⟨(⟨#[58, 58, 105, 110, 116, 101, 114, 118, 97, 108]⟩ : ByteArray), (⟨#[116, 118, 32, 118, 118]⟩ : ByteArray)⟩ : S50), (⟨(⟨#[58, 58, 105, 110, 116]⟩ : ByteArray), (⟨#[116, 105, 32, 105, 105, 32, 110, 105]⟩ : ByteArray)⟩ : S50), (⟨(⟨#[58, 58, 110, 117, 109, 101, 114, 105, 99]⟩ : ByteArray), (⟨#[116, 110, 32, 105, 110, 32, 110, 110]⟩ : ByteArray)⟩ : S50), (⟨(⟨#[100, 97, 116, 101, 95, 116, 114, 117, 110, 99]⟩ : ByteArray), (⟨#[116, 115, 115, 32, 116, 122, 122, 32, 116, 122, 116, 122]⟩ : ByteArray)⟩ : S50), (⟨(⟨#[100, 97, 116, 101, 95, 98, 105, 110]⟩ : ByteArray), (⟨#[118, 115, 115, 115, 32, 118, 122, 122, 122]⟩ : ByteArray)⟩ : S50), (⟨(⟨#[101, 120, 116, 114, 97, 99, 116]⟩ : ByteArray), (⟨#[116, 100, 110, 32, 116, 115, 110, 32, 116, 122, 110, 32, 116, 118, 110]⟩ : ByteArray)⟩ : S50), (⟨(⟨#[97, 103, 101]⟩ : ByteArray), (⟨#[115, 115, 118]⟩ : ByteArray)⟩ : S50), (⟨(⟨#[106, 117, 115, 116, 105, 102, 121]⟩ : ByteArray), (⟨#[118, 118]⟩ : ByteArray)⟩ : S50), (⟨(⟨#[109, 97, 107, 101, 95, 100, 97, 116, 101]⟩ : ByteArray), (⟨#[105, 105, 105, 100]⟩ : ByteArray)⟩ : S50), (⟨(⟨#[105, 115, 102, 105, 110, 105, 116, 101]⟩ : ByteArray), (⟨#[100, 98, 32, 115, 98, 32, 122, 98, 32, 118, 98]⟩ : ByteArray)⟩ : S50), (⟨(⟨#[111, 118, 101, 114, 108, 97, 112, 115]⟩ : ByteArray), (⟨#[115, 115, 115, 115, 98, 32, 122, 122, 122, 122, 98]⟩ : ByteArray)⟩ : S50), (⟨(⟨#[103, 101, 110, 101, 114, 97, 116, 101, 95, 115, 101, 114, 105, 101, 115]⟩ : ByteArray), (⟨#[105, 105, 105, 105, 32, 115, 115, 118, 115, 32, 122, 122, 118, 122]⟩ : ByteArray)⟩ : S50), (⟨(⟨#[61]⟩ : ByteArray), (⟨#[105, 105, 98, 32, 110, 110, 98, 32, 105, 110, 98, 32, 110, 105, 98, 32, 116, 116, 98, 32, 100, 100, 98, 32, 115, 115, 98, 32, 122, 122, 98, 32, 118, 118, 98, 32, 98, 98, 98]⟩ : ByteArray)⟩ : S50), (⟨(⟨#[60, 62]⟩ : ByteArray), (⟨#[105, 105, 98, 32, 110, 110, 98, 32, 105, 110, 98, 32, 110, 105, 98, 32, 116, 116, 98, 32, 100, 100, 98, 32, 115, 115, 98, 32, 122, 122, 98, 32, 118, 118, 98, 32, 98, 98, 98]⟩ : ByteArray)⟩ : S50), (⟨(⟨#[60]⟩ : ByteArray), (⟨#[105, 105, 98, 32, 110, 110, 98, 32, 105, 110, 98, 32, 110, 105, 98, 32, 116, 116, 98, 32, 100, 100, 98, 32, 115, 115, 98, 32, 122, 122, 98, 32, 118, 118, 98]⟩ : ByteArray)⟩ : S50), (⟨(⟨#[60, 61]⟩ : ByteArray), (⟨#[105, 105, 98, 32, 110, 110, 98, 32, 105, 110, 98, 32, 110, 105, 98, 32, 116, 116, 98, 32, 100, 100, 98, 32, 115, 115, 98, 32, 122, 122, 98, 32, 118, 118, 98]⟩ : ByteArray)⟩ : S50), (⟨(⟨#[62]⟩ : ByteArray), (⟨#[105, 105, 98, 32, 110, 110, 98, 32, 105, 110, 98, 32, 110, 105, 98, 32, 116, 116, 98, 32, 100, 100, 98, 32, 115, 115, 98, 32, 122, 122, 98, 32, 118, 118, 98]⟩ : ByteArray)⟩ : S50), (⟨(⟨#[62, 61]⟩ : ByteArray), (⟨#[105, 105, 98, 32, 110, 110, 98, 32, 105, 110, 98, 32, 110, 105, 98, 32, 116, 116, 98, 32, 100, 100, 98, 32, 115, 115, 98, 32, 122, 122, 98, 32, 118, 118, 98]⟩ : ByteArray)⟩ : S50)] : List (S50))) := ⟨_, rfl⟩
  replace H : (some y138) = some r := by first | (rw [hy138]; with_reducible exact H) | (have H2_ := (Option.bind_some _ _).symm.trans H; rw [hy138]; with_reducible exact H2_) | (have H2_ := (Option.bind_some _ _).symm.trans H; with_reducible exact H2_) | with_reducible exact H | (rw [hy138]; exact H) | exact H
  have Ny138 := Aside0.mk hy138
  clear hy138
  obtain rfl := Option.some.inj H
  go_enter Tryd.func18, Tryd.ntmps18
  go_wp2_with (first | ((with_reducible refine gate_dst (N := 33) rfl ?_); refine Kd.R_lit k50 _ 50 ?hg (N := 33) ?hd (xs := ([(⟨(⟨#[43]⟩ : ByteArray), (⟨#[105, 105, 105, 32, 110, 110, 110, 32, 105, 110, 110, 32, 110, 105, 110, 32, 100, 105, 100, 32, 105, 100, 100, 32, 100, 118, 115, 32, 118, 100, 115, 32, 115, 118, 115, 32, 118, 115, 115, 32, 122, 118, 122, 32, 118, 122, 122, 32, 118, 118, 118]⟩ : ByteArray)⟩ : S50), (⟨(⟨#[45]⟩ : ByteArray), (⟨#[105, 105, 105, 32, 110, 110, 110, 32, 105, 110, 110, 32, 110, 105, 110, 32, 100, 105, 100, 32, 100, 100, 105, 32, 100, 118, 115, 32, 115, 118, 115, 32, 115, 115, 118, 32, 122, 118, 122, 32, 122, 122, 118, 32, 118, 118, 118]⟩ : ByteArray)⟩ : S50), (⟨(⟨#[42]⟩ : ByteArray), (⟨#[105, 105, 105, 32, 110, 110, 110, 32, 105, 110, 110, 32, 110, 105, 110, 32, 118, 105, 118, 32, 105, 118, 118]⟩ : ByteArray)⟩ : S50), (⟨(⟨#[47]⟩ : ByteArray), (⟨#[105, 105, 105]⟩ : ByteArray)⟩ : S50), (⟨(⟨#[37]⟩ : ByteArray), (⟨#[105, 105, 105]⟩ : ByteArray)⟩ : S50), (⟨(⟨#[97, 110, 100]⟩ : ByteArray), (⟨#[98, 98, 98]⟩ : ByteArray)⟩ : S50), (⟨(⟨#[111, 114]⟩ : ByteArray), (⟨#[98, 98, 98]⟩ : ByteArray)⟩ : S50), (⟨(⟨#[110, 111, 116]⟩ : ByteArray), (⟨#[98, 98]⟩ : ByteArray)⟩ : S50), (⟨(⟨#[110, 101, 103]⟩ : ByteArray), (⟨#[105, 105, 32, 110, 110, 32, 118, 118]⟩ : ByteArray)⟩ : S50), (⟨(⟨#[97, 116, 32, 116, 105, 109, 101, 32, 122, 111, 110, 101]⟩ : ByteArray), (⟨#[115, 116, 122, 32, 122, 116, 115]⟩ : ByteArray)⟩ : S50), (⟨(⟨#[58, 58, 116, 101, 120, 116]⟩ : ByteArray), (⟨#[105, 116, 32, 110, 116, 32, 98, 116, 32, 116, 116, 32, 100, 116, 32, 115, 116, 32, 122, 116, 32, 118, 116]⟩ : ByteArray)⟩ : S50), (⟨(⟨#[58, 58, 100, 97, 116, 101]⟩ : ByteArray), (⟨#[116, 100, 32, 100, 100, 32, 115, 100, 32, 122, 100]⟩ : ByteArray)⟩ : S50), (⟨(⟨#[58, 58, 116, 105, 109, 101, 115, 116, 97, 109, 112]⟩ : ByteArray), (⟨#[116, 115, 32, 100, 115, 32, 115, 115, 32, 122, 115]⟩ : ByteArray)⟩ : S50), (⟨(⟨#[58, 58, 116, 105, 109, 101, 115, 116, 97, 109, 112, 116, 122]⟩ : ByteArray), (⟨#[116, 122, 32, 100, 122, 32, 115, 122, 32, 122, 122]⟩ : ByteArray)⟩ : S50), (⟨(⟨#[58, 58, 105, 110, 116, 101, 114, 118, 97, 108]⟩ : ByteArray), (⟨#[116, 118, 32, 118, 118]⟩ : ByteArray)⟩ : S50), (⟨(⟨#[58, 58, 105, 110, 116]⟩ : ByteArray), (⟨#[116, 105, 32, 105, 105, 32, 110, 105]⟩ : ByteArray)⟩ : S50), (⟨(⟨#[58, 58, 110, 117, 109, 101, 114, 105, 99]⟩ : ByteArray), (⟨#[116, 110, 32, 105, 110, 32, 110, 110]⟩ : ByteArray)⟩ : S50), (⟨(⟨#[100, 97, 116, 101, 95, 116, 114, 117, 110, 99]⟩ : ByteArray), (⟨#[116, 115, 115, 32, 116, 122, 122, 32, 116, 122, 116, 122]⟩ : ByteArray)⟩ : S50), (⟨(⟨#[100, 97, 116, 101, 95, 98, 105, 110]⟩ : ByteArray), (⟨#[118, 115, 115, 115, 32, 118, 122, 122, 122]⟩ : ByteArray)⟩ : S50), (⟨(⟨#[101, 120, 116, 114, 97, 99, 116]⟩ : ByteArray), (⟨#[116, 100, 110, 32, 116, 115, 110, 32, 116, 122, 110, 32, 116, 118, 110]⟩ : ByteArray)⟩ : S50), (⟨(⟨#[97, 103, 101]⟩ : ByteArray), (⟨#[115, 115, 118]⟩ : ByteArray)⟩ : S50), (⟨(⟨#[106, 117, 115, 116, 105, 102, 121]⟩ : ByteArray), (⟨#[118, 118]⟩ : ByteArray)⟩ : S50), (⟨(⟨#[109, 97, 107, 101, 95, 100, 97, 116, 101]⟩ : ByteArray), (⟨#[105, 105, 105, 100]⟩ : ByteArray)⟩ : S50), (⟨(⟨#[105, 115, 102, 105, 110, 105, 116, 101]⟩ : ByteArray), (⟨#[100, 98, 32, 115, 98, 32, 122, 98, 32, 118, 98]⟩ : ByteArray)⟩ : S50), (⟨(⟨#[111, 118, 101, 114, 108, 97, 112, 115]⟩ : ByteArray), (⟨#[115, 115, 115, 115, 98, 32, 122, 122, 122, 122, 98]⟩ : ByteArray)⟩ : S50), (⟨(⟨#[103, 101, 110, 101, 114, 97, 116, 101, 95, 115, 101, 114, 105, 101, 115]⟩ : ByteArray), (⟨#[105, 105, 105, 105, 32, 115, 115, 118, 115, 32, 122, 122, 118, 122]⟩ : ByteArray)⟩ : S50), (⟨(⟨#[61]⟩ : ByteArray), (⟨#[105, 105, 98, 32, 110, 110, 98, 32, 105, 110, 98, 32, 110, 105, 98, 32, 116, 116, 98, 32, 100, 100, 98, 32, 115, 115, 98, 32, 122, 122, 98, 32, 118, 118, 98, 32, 98, 98, 98]⟩ : ByteArray)⟩ : S50), (⟨(⟨#[60, 62]⟩ : ByteArray), (⟨#[105, 105, 98, 32, 110, 110, 98, 32, 105, 110, 98, 32, 110, 105, 98, 32, 116, 116, 98, 32, 100, 100, 98, 32, 115, 115, 98, 32, 122, 122, 98, 32, 118, 118, 98, 32, 98, 98, 98]⟩ : ByteArray)⟩ : S50), (⟨(⟨#[60]⟩ : ByteArray), (⟨#[105, 105, 98, 32, 110, 110, 98, 32, 105, 110, 98, 32, 110, 105, 98, 32, 116, 116, 98, 32, 100, 100, 98, 32, 115, 115, 98, 32, 122, 122, 98, 32, 118, 118, 98]⟩ : ByteArray)⟩ : S50), (⟨(⟨#[60, 61]⟩ : ByteArray), (⟨#[105, 105, 98, 32, 110, 110, 98, 32, 105, 110, 98, 32, 110, 105, 98, 32, 116, 116, 98, 32, 100, 100, 98, 32, 115, 115, 98, 32, 122, 122, 98, 32, 118, 118, 98]⟩ : ByteArray)⟩ : S50), (⟨(⟨#[62]⟩ : ByteArray), (⟨#[105, 105, 98, 32, 110, 110, 98, 32, 105, 110, 98, 32, 110, 105, 98, 32, 116, 116, 98, 32, 100, 100, 98, 32, 115, 115, 98, 32, 122, 122, 98, 32, 118, 118, 98]⟩ : ByteArray)⟩ : S50), (⟨(⟨#[62, 61]⟩ : ByteArray), (⟨#[105, 105, 98, 32, 110, 110, 98, 32, 105, 110, 98, 32, 110, 105, 98, 32, 116, 116, 98, 32, 100, 100, 98, 32, 115, 115, 98, 32, 122, 122, 98, 32, 118, 118, 98]⟩ : ByteArray)⟩ : S50)] : List (S50))) (inner := [.string (⟨#[43]⟩ : ByteArray), .string (⟨#[105, 105, 105, 32, 110, 110, 110, 32, 105, 110, 110, 32, 110, 105, 110, 32, 100, 105, 100, 32, 105, 100, 100, 32, 100, 118, 115, 32, 118, 100, 115, 32, 115, 118, 115, 32, 118, 115, 115, 32, 122, 118, 122, 32, 118, 122, 122, 32, 118, 118, 118]⟩ : ByteArray), .string (⟨#[45]⟩ : ByteArray), .string (⟨#[105, 105, 105, 32, 110, 110, 110, 32, 105, 110, 110, 32, 110, 105, 110, 32, 100, 105, 100, 32, 100, 100, 105, 32, 100, 118, 115, 32, 115, 118, 115, 32, 115, 115, 118, 32, 122, 118, 122, 32, 122, 122, 118, 32, 118, 118, 118]⟩ : ByteArray), .string (⟨#[42]⟩ : ByteArray), .string (⟨#[105, 105, 105, 32, 110, 110, 110, 32, 105, 110, 110, 32, 110, 105, 110, 32, 118, 105, 118, 32, 105, 118, 118]⟩ : ByteArray), .string (⟨#[47]⟩ : ByteArray), .string (⟨#[105, 105, 105]⟩ : ByteArray), .string (⟨#[37]⟩ : ByteArray), .string (⟨#[105, 105, 105]⟩ : ByteArray), .string (⟨#[97, 110, 100]⟩ : ByteArray), .string (⟨#[98, 98, 98]⟩ : ByteArray), .string (⟨#[111, 114]⟩ : ByteArray), .string (⟨#[98, 98, 98]⟩ : ByteArray), .string (⟨#[110, 111, 116]⟩ : ByteArray), .string (⟨#[98, 98]⟩ : ByteArray), .string (⟨#[110, 101, 103]⟩ : ByteArray), .string (⟨#[105, 105, 32, 110, 110, 32, 118, 118]⟩ : ByteArray), .string (⟨#[97, 116, 32, 116, 105, 109, 101, 32, 122, 111, 110, 101]⟩ : ByteArray), .string (⟨#[115, 116, 122, 32, 122, 116, 115]⟩ : ByteArray), .string (⟨#[58, 58, 116, 101, 120, 116]⟩ : ByteArray), .string (⟨#[105, 116, 32, 110, 116, 32, 98, 116, 32, 116, 116, 32, 100, 116, 32, 115, 116, 32, 122, 116, 32, 118, 116]⟩ : ByteArray), .string (⟨#[58, 58, 100, 97, 116, 101]⟩ : ByteArray), .string (⟨#[116, 100, 32, 100, 100, 32, 115, 100, 32, 122, 100]⟩ : ByteArray), .string (⟨#[58, 58, 116, 105, 109, 101, 115, 116, 97, 109, 112]⟩ : ByteArray), .string (⟨#[116, 115, 32, 100, 115, 32, 115, 115, 32, 122, 115]⟩ : ByteArray), .string (⟨#[58, 58, 116, 105, 109, 101, 115, 116, 97, 109, 112, 116, 122]⟩ : ByteArray), .string (⟨#[116, 122, 32, 100, 122, 32, 115, 122, 32, 122, 122]⟩ : ByteArray), .string (⟨#[58, 58, 105, 110, 116, 101, 114, 118, 97, 108]⟩ : ByteArray), .string (⟨#[116, 118, 32, 118, 118]⟩ : ByteArray), .string (⟨#[58, 58, 105, 110, 116]⟩ : ByteArray), .string (⟨#[116, 105, 32, 105, 105, 32, 110, 105]⟩ : ByteArray), .string (⟨#[58, 58, 110, 117, 109, 101, 114, 105, 99]⟩ : ByteArray), .string (⟨#[116, 110, 32, 105, 110, 32, 110, 110]⟩ : ByteArray), .string (⟨#[100, 97, 116, 101, 95, 116, 114, 117, 110, 99]⟩ : ByteArray), .string (⟨#[116, 115, 115, 32, 116, 122, 122, 32, 116, 122, 116, 122]⟩ : ByteArray), .string (⟨#[100, 97, 116, 101, 95, 98, 105, 110]⟩ : ByteArray), .string (⟨#[118, 115, 115, 115, 32, 118, 122, 122, 122]⟩ : ByteArray), .string (⟨#[101, 120, 116, 114, 97, 99, 116]⟩ : ByteArray), .string (⟨#[116, 100, 110, 32, 116, 115, 110, 32, 116, 122, 110, 32, 116, 118, 110]⟩ : ByteArray), .string (⟨#[97, 103, 101]⟩ : ByteArray), .string (⟨#[115, 115, 118]⟩ : ByteArray), .string (⟨#[106, 117, 115, 116, 105, 102, 121]⟩ : ByteArray), .string (⟨#[118, 118]⟩ : ByteArray), .string (⟨#[109, 97, 107, 101, 95, 100, 97, 116, 101]⟩ : ByteArray), .string (⟨#[105, 105, 105, 100]⟩ : ByteArray), .string (⟨#[105, 115, 102, 105, 110, 105, 116, 101]⟩ : ByteArray), .string (⟨#[100, 98, 32, 115, 98, 32, 122, 98, 32, 118, 98]⟩ : ByteArray), .string (⟨#[111, 118, 101, 114, 108, 97, 112, 115]⟩ : ByteArray), .string (⟨#[115, 115, 115, 115, 98, 32, 122, 122, 122, 122, 98]⟩ : ByteArray), .string (⟨#[103, 101, 110, 101, 114, 97, 116, 101, 95, 115, 101, 114, 105, 101, 115]⟩ : ByteArray), .string (⟨#[105, 105, 105, 105, 32, 115, 115, 118, 115, 32, 122, 122, 118, 122]⟩ : ByteArray), .string (⟨#[61]⟩ : ByteArray), .string (⟨#[105, 105, 98, 32, 110, 110, 98, 32, 105, 110, 98, 32, 110, 105, 98, 32, 116, 116, 98, 32, 100, 100, 98, 32, 115, 115, 98, 32, 122, 122, 98, 32, 118, 118, 98, 32, 98, 98, 98]⟩ : ByteArray), .string (⟨#[60, 62]⟩ : ByteArray), .string (⟨#[105, 105, 98, 32, 110, 110, 98, 32, 105, 110, 98, 32, 110, 105, 98, 32, 116, 116, 98, 32, 100, 100, 98, 32, 115, 115, 98, 32, 122, 122, 98, 32, 118, 118, 98, 32, 98, 98, 98]⟩ : ByteArray), .string (⟨#[60]⟩ : ByteArray), .string (⟨#[105, 105, 98, 32, 110, 110, 98, 32, 105, 110, 98, 32, 110, 105, 98, 32, 116, 116, 98, 32, 100, 100, 98, 32, 115, 115, 98, 32, 122, 122, 98, 32, 118, 118, 98]⟩ : ByteArray), .string (⟨#[60, 61]⟩ : ByteArray), .string (⟨#[105, 105, 98, 32, 110, 110, 98, 32, 105, 110, 98, 32, 110, 105, 98, 32, 116, 116, 98, 32, 100, 100, 98, 32, 115, 115, 98, 32, 122, 122, 98, 32, 118, 118, 98]⟩ : ByteArray), .string (⟨#[62]⟩ : ByteArray), .string (⟨#[105, 105, 98, 32, 110, 110, 98, 32, 105, 110, 98, 32, 110, 105, 98, 32, 116, 116, 98, 32, 100, 100, 98, 32, 115, 115, 98, 32, 122, 122, 98, 32, 118, 118, 98]⟩ : ByteArray), .string (⟨#[62, 61]⟩ : ByteArray), .string (⟨#[105, 105, 98, 32, 110, 110, 98, 32, 105, 110, 98, 32, 110, 105, 98, 32, 116, 116, 98, 32, 100, 100, 98, 32, 115, 115, 98, 32, 122, 122, 98, 32, 118, 118, 98]⟩ : ByteArray)]) (ok := fun _ => True) (okp := fun _ => True) ?hr ?hp (fun _ hk => hk) trivial (Below.refl _ _) (Nat.le_refl _) (by simp) ?_; (case hd => rfl); (case hg => rfl); (case hr => first | (go_simp; done) | (go_simp; rfl)); (case hp => exact (Reps.c2 (show Kd.M k50 _ _ _ (⟨(⟨#[43]⟩ : ByteArray), (⟨#[105, 105, 105, 32, 110, 110, 110, 32, 105, 110, 110, 32, 110, 105, 110, 32, 100, 105, 100, 32, 105, 100, 100, 32, 100, 118, 115, 32, 118, 100, 115, 32, 115, 118, 115, 32, 118, 115, 115, 32, 122, 118, 122, 32, 118, 122, 122, 32, 118, 118, 118]⟩ : ByteArray)⟩ : S50) [.string (⟨#[43]⟩ : ByteArray), .string (⟨#[105, 105, 105, 32, 110, 110, 110, 32, 105, 110, 110, 32, 110, 105, 110, 32, 100, 105, 100, 32, 105, 100, 100, 32, 100, 118, 115, 32, 118, 100, 115, 32, 115, 118, 115, 32, 118, 115, 115, 32, 122, 118, 122, 32, 118, 122, 122, 32, 118, 118, 118]⟩ : ByteArray)] from (k50_mkM _ _ _ (⟨(⟨#[43]⟩ : ByteArray), (⟨#[105, 105, 105, 32, 110, 110, 110, 32, 105, 110, 110, 32, 110, 105, 110, 32, 100, 105, 100, 32, 105, 100, 100, 32, 100, 118, 115, 32, 118, 100, 115, 32, 115, 118, 115, 32, 118, 115, 115, 32, 122, 118, 122, 32, 118, 122, 122, 32, 118, 118, 118]⟩ : ByteArray)⟩ : S50) )) (Reps.c2 (show Kd.M k50 _ _ _ (⟨(⟨#[45]⟩ : ByteArray), (⟨#[105, 105, 105, 32, 110, 110, 110, 32, 105, 110, 110, 32, 110, 105, 110, 32, 100, 105, 100, 32, 100, 100, 105, 32, 100, 118, 115, 32, 115, 118, 115, 32, 115, 115, 118, 32, 122, 118, 122, 32, 122, 122, 118, 32, 118, 118, 118]⟩ : ByteArray)⟩ : S50) [.string (⟨#[45]⟩ : ByteArray), .string (⟨#[105, 105, 105, 32, 110, 110, 110, 32, 105, 110, 110, 32, 110, 105, 110, 32, 100, 105, 100, 32, 100, 100, 105, 32, 100, 118, 115, 32, 115, 118, 115, 32, 115, 115, 118, 32, 122, 118, 122, 32, 122, 122, 118, 32, 118, 118, 118]⟩ : ByteArray)] from (k50_mkM _ _ _ (⟨(⟨#[45]⟩ : ByteArray), (⟨#[105, 105, 105, 32, 110, 110, 110, 32, 105, 110, 110, 32, 110, 105, 110, 32, 100, 105, 100, 32, 100, 100, 105, 32, 100, 118, 115, 32, 115, 118, 115, 32, 115, 115, 118, 32, 122, 118, 122, 32, 122, 122, 118, 32, 118, 118, 118]⟩ : ByteArray)⟩ : S50) )) (Reps.c2 (show Kd.M k50 _ _ _ (⟨(⟨#[42]⟩ : ByteArray), (⟨#[105, 105, 105, 32, 110, 110, 110, 32, 105, 110, 110, 32, 110, 105, 110, 32, 118, 105, 118, 32, 105, 118, 118]⟩ : ByteArray)⟩ : S50) [.string (⟨#[42]⟩ : ByteArray), .string (⟨#[105, 105, 105, 32, 110, 110, 110, 32, 105, 110, 110, 32, 110, 105, 110, 32, 118, 105, 118, 32, 105, 118, 118]⟩ : ByteArray)] from (k50_mkM _ _ _ (⟨(⟨#[42]⟩ : ByteArray), (⟨#[105, 105, 105, 32, 110, 110, 110, 32, 105, 110, 110, 32, 110, 105, 110, 32, 118, 105, 118, 32, 105, 118, 118]⟩ : ByteArray)⟩ : S50) )) (Reps.c2 (show Kd.M k50 _ _ _ (⟨(⟨#[47]⟩ : ByteArray), (⟨#[105, 105, 105]⟩ : ByteArray)⟩ : S50) [.string (⟨#[47]⟩ : ByteArray), .string (⟨#[105, 105, 105]⟩ : ByteArray)] from (k50_mkM _ _ _ (⟨(⟨#[47]⟩ : ByteArray), (⟨#[105, 105, 105]⟩ : ByteArray)⟩ : S50) )) (Reps.c2 (show Kd.M k50 _ _ _ (⟨(⟨#[37]⟩ : ByteArray), (⟨#[105, 105, 105]⟩ : ByteArray)⟩ : S50) [.string (⟨#[37]⟩ : ByteArray), .string (⟨#[105, 105, 105]⟩ : ByteArray)] from (k50_mkM _ _ _ (⟨(⟨#[37]⟩ : ByteArray), (⟨#[105, 105, 105]⟩ : ByteArray)⟩ : S50) )) (Reps.c2 (show Kd.M k50 _ _ _ (⟨(⟨#[97, 110, 100]⟩ : ByteArray), (⟨#[98, 98, 98]⟩ : ByteArray)⟩ : S50) [.string (⟨#[97, 110, 100]⟩ : ByteArray), .string (⟨#[98, 98, 98]⟩ : ByteArray)] from (k50_mkM _ _ _ (⟨(⟨#[97, 110, 100]⟩ : ByteArray), (⟨#[98, 98, 98]⟩ : ByteArray)⟩ : S50) )) (Reps.c2 (show Kd.M k50 _ _ _ (⟨(⟨#[111, 114]⟩ : ByteArray), (⟨#[98, 98, 98]⟩ : ByteArray)⟩ : S50) [.string (⟨#[111, 114]⟩ : ByteArray), .string (⟨#[98, 98, 98]⟩ : ByteArray)] from (k50_mkM _ _ _ (⟨(⟨#[111, 114]⟩ : ByteArray), (⟨#[98, 98, 98]⟩ : ByteArray)⟩ : S50) )) (Reps.c2 (show Kd.M k50 _ _ _ (⟨(⟨#[110, 111, 116]⟩ : ByteArray), (⟨#[98, 98]⟩ : ByteArray)⟩ : S50) [.string (⟨#[110, 111, 116]⟩ : ByteArray), .string (⟨#[98, 98]⟩ : ByteArray)] from (k50_mkM _ _ _ (⟨(⟨#[110, 111, 116]⟩ : ByteArray), (⟨#[98, 98]⟩ : ByteArray)⟩ : S50) )) (Reps.c2 (show Kd.M k50 _ _ _ (⟨(⟨#[110, 101, 103]⟩ : ByteArray), (⟨#[105, 105, 32, 110, 110, 32, 118, 118]⟩ : ByteArray)⟩ : S50) [.string (⟨#[110, 101, 103]⟩ : ByteArray), .string (⟨#[105, 105, 32, 110, 110, 32, 118, 118]⟩ : ByteArray)] from (k50_mkM _ _ _ (⟨(⟨#[110, 101, 103]⟩ : ByteArray), (⟨#[105, 105, 32, 110, 110, 32, 118, 118]⟩ : ByteArray)⟩ : S50) )) (Reps.c2 (show Kd.M k50 _ _ _ (⟨(⟨#[97, 116, 32, 116, 105, 109, 101, 32, 122, 111, 110, 101]⟩ : ByteArray), (⟨#[115, 116, 122, 32, 122, 116, 115]⟩ : ByteArray)⟩ : S50) [.string (⟨#[97, 116, 32, 116, 105, 109, 101, 32, 122, 111, 110, 101]⟩ : ByteArray), .string (⟨#[115, 116, 122, 32, 122, 116, 115]⟩ : ByteArray)] from (k50_mkM _ _ _ (⟨(⟨#[97, 116, 32, 116, 105, 109, 101, 32, 122, 111, 110, 101]⟩ : ByteArray), (⟨#[115, 116, 122, 32, 122, 116, 115]⟩ : ByteArray)⟩ : S50) )) (Reps.c2 (show Kd.M k50 _ _ _ (⟨(⟨#[58, 58, 116, 101, 120, 116]⟩ : ByteArray), (⟨#[105, 116, 32, 110, 116, 32, 98, 116, 32, 116, 116, 32, 100, 116, 32, 115, 116, 32, 122, 116, 32, 118, 116]⟩ : ByteArray)⟩ : S50) [.string (⟨#[58, 58, 116, 101, 120, 116]⟩ : ByteArray), .string (⟨#[105, 116, 32, 110, 116, 32, 98, 116, 32, 116, 116, 32, 100, 116, 32, 115, 116, 32, 122, 116, 32, 118, 116]⟩ : ByteArray)] from (k50_mkM _ _ _ (⟨(⟨#[58, 58, 116, 101, 120, 116]⟩ : ByteArray), (⟨#[105, 116, 32, 110, 116, 32, 98, 116, 32, 116, 116, 32, 100, 116, 32, 115, 116, 32, 122, 116, 32, 118, 116]⟩ : ByteArray)⟩ : S50) )) (Reps.c2 (show Kd.M k50 _ _ _ (⟨(⟨#[58, 58, 100, 97, 116, 101]⟩ : ByteArray), (⟨#[116, 100, 32, 100, 100, 32, 115, 100, 32, 122, 100]⟩ : ByteArray)⟩ : S50) [.string (⟨#[58, 58, 100, 97, 116, 101]⟩ : ByteArray), .string (⟨#[116, 100, 32, 100, 100, 32, 115, 100, 32, 122, 100]⟩ : ByteArray)] from (k50_mkM _ _ _ (⟨(⟨#[58, 58, 100, 97, 116, 101]⟩ : ByteArray), (⟨#[116, 100, 32, 100, 100, 32, 115, 100, 32, 122, 100]⟩ : ByteArray)⟩ : S50) )) (Reps.c2 (show Kd.M k50 _ _ _ (⟨(⟨#[58, 58, 116, 105, 109, 101, 115, 116, 97, 109, 112]⟩ : ByteArray), (⟨#[116, 115, 32, 100, 115, 32, 115, 115, 32, 122, 115]⟩ : ByteArray)⟩ : S50) [.string (⟨#[58, 58, 116, 105, 109, 101, 115, 116, 97, 109, 112]⟩ : ByteArray), .string (⟨#[116, 115, 32, 100, 115, 32, 115, 115, 32, 122, 115]⟩ : ByteArray)] from (k50_mkM _ _ _ (⟨(⟨#[58, 58, 116, 105, 109, 101, 115, 116, 97, 109, 112]⟩ : ByteArray), (⟨#[116, 115, 32, 100, 115, 32, 115, 115, 32, 122, 115]⟩ : ByteArray)⟩ : S50) )) (Reps.c2 (show Kd.M k50 _ _ _ (⟨(⟨#[58, 58, 116, 105, 109, 101, 115, 116, 97, 109, 112, 116, 122]⟩ : ByteArray), (⟨#[116, 122, 32, 100, 122, 32, 115, 122, 32, 122, 122]⟩ : ByteArray)⟩ : S50) [.string (⟨#[58, 58, 116, 105, 109, 101, 115, 116, 97, 109, 112, 116, 122]⟩ : ByteArray), .string (⟨#[116, 122, 32, 100, 122, 32, 115, 122, 32, 122, 122]⟩ : ByteArray)] from (k50_mkM _ _ _ (⟨(⟨#[58, 58, 116, 105, 109, 101, 115, 116, 97, 109, 112, 116, 122]⟩ : ByteArray), (⟨#[116, 122, 32, 100, 122, 32, 115, 122, 32, 122, 122]⟩ : ByteArray)⟩ : S50) )) (Reps.c2 (show Kd.M k50 _ _ _ (⟨(⟨#[58, 58, 105, 110, 116, 101, 114, 118, 97, 108]⟩ : ByteArray), (⟨#[116, 118, 32, 118, 118]⟩ : ByteArray)⟩ : S50) [.string (⟨#[58, 58, 105, 110, 116, 101, 114, 118, 97, 108]⟩ : ByteArray), .string (⟨#[116, 118, 32, 118, 118]⟩ : ByteArray)] from (k50_mkM _ _ _ (⟨(⟨#[58, 58, 105, 110, 116, 101, 114, 118, 97, 108]⟩ : ByteArray), (⟨#[116, 118, 32, 118, 118]⟩ : ByteArray)⟩ : S50) )) (Reps.c2 (show Kd.M k50 _ _ _ (⟨(⟨#[58, 58, 105, 110, 116]⟩ : ByteArray), (⟨#[116, 105, 32, 105, 105, 32, 110, 105]⟩ : ByteArray)⟩ : S50) [.string (⟨#[58, 58, 105, 110, 116]⟩ : ByteArray), .string (⟨#[116, 105, 32, 105, 105, 32, 110, 105]⟩ : ByteArray)] from (k50_mkM _ _ _ (⟨(⟨#[58, 58, 105, 110, 116]⟩ : ByteArray), (⟨#[116, 105, 32, 105, 105, 32, 110, 105]⟩ : ByteArray)⟩ : S50) )) (Reps.c2 (show Kd.M k50 _ _ _ (⟨(⟨#[58, 58, 110, 117, 109, 101, 114, 105, 99]⟩ : ByteArray), (⟨#[116, 110, 32, 105, 110, 32, 110, 110]⟩ : ByteArray)⟩ : S50) [.string (⟨#[58, 58, 110, 117, 109, 101, 114, 105, 99]⟩ : ByteArray), .string (⟨#[116, 110, 32, 105, 110, 32, 110, 110]⟩ : ByteArray)] from (k50_mkM _ _ _ (⟨(⟨#[58, 58, 110, 117, 109, 101, 114, 105, 99]⟩ : ByteArray), (⟨#[116, 110, 32, 105, 110, 32, 110, 110]⟩ : ByteArray)⟩ : S50) )) (Reps.c2 (show Kd.M k50 _ _ _ (⟨(⟨#[100, 97, 116, 101, 95, 116, 114, 117, 110, 99]⟩ : ByteArray), (⟨#[116, 115, 115, 32, 116, 122, 122, 32, 116, 122, 116, 122]⟩ : ByteArray)⟩ : S50) [.string (⟨#[100, 97, 116, 101, 95, 116, 114, 117, 110, 99]⟩ : ByteArray), .string (⟨#[116, 115, 115, 32, 116, 122, 122, 32, 116, 122, 116, 122]⟩ : ByteArray)] from (k50_mkM _ _ _ (⟨(⟨#[100, 97, 116, 101, 95, 116, 114, 117, 110, 99]⟩ : ByteArray), (⟨#[116, 115, 115, 32, 116, 122, 122, 32, 116, 122, 116, 122]⟩ : ByteArray)⟩ : S50) )) (Reps.c2 (show Kd.M k50 _ _ _ (⟨(⟨#[100, 97, 116, 101, 95, 98, 105, 110]⟩ : ByteArray), (⟨#[118, 115, 115, 115, 32, 118, 122, 122, 122]⟩ : ByteArray)⟩ : S50) [.string (⟨#[100, 97, 116, 101, 95, 98, 105, 110]⟩ : ByteArray), .string (⟨#[118, 115, 115, 115, 32, 118, 122, 122, 122]⟩ : ByteArray)] from (k50_mkM _ _ _ (⟨(⟨#[100, 97, 116, 101, 95, 98, 105, 110]⟩ : ByteArray), (⟨#[118, 115, 115, 115, 32, 118, 122, 122, 122]⟩ : ByteArray)⟩ : S50) )) (Reps.c2 (show Kd.M k50 _ _ _ (⟨(⟨#[101, 120, 116, 114, 97, 99, 116]⟩ : ByteArray), (⟨#[116, 100, 110, 32, 116, 115, 110, 32, 116, 122, 110, 32, 116, 118, 110]⟩ : ByteArray)⟩ : S50) [.string (⟨#[101, 120, 116, 114, 97, 99, 116]⟩ : ByteArray), .string (⟨#[116, 100, 110, 32, 116, 115, 110, 32, 116, 122, 110, 32, 116, 118, 110]⟩ : ByteArray)] from (k50_mkM _ _ _ (⟨(⟨#[101, 120, 116, 114, 97, 99, 116]⟩ : ByteArray), (⟨#[116, 100, 110, 32, 116, 115, 110, 32, 116, 122, 110, 32, 116, 118, 110]⟩ : ByteArray)⟩ : S50) )) (Reps.c2 (show Kd.M k50 _ _ _ (⟨(⟨#[97, 103, 101]⟩ : ByteArray), (⟨#[115, 115, 118]⟩ : ByteArray)⟩ : S50) [.string (⟨#[97, 103, 101]⟩ : ByteArray), .string (⟨#[115, 115, 118]⟩ : ByteArray)] from (k50_mkM _ _ _ (⟨(⟨#[97, 103, 101]⟩ : ByteArray), (⟨#[115, 115, 118]⟩ : ByteArray)⟩ : S50) )) (Reps.c2 (show Kd.M k50 _ _ _ (⟨(⟨#[106, 117, 115, 116, 105, 102, 121]⟩ : ByteArray), (⟨#[118, 118]⟩ : ByteArray)⟩ : S50) [.string (⟨#[106, 117, 115, 116, 105, 102, 121]⟩ : ByteArray), .string (⟨#[118, 118]⟩ : ByteArray)] from (k50_mkM _ _ _ (⟨(⟨#[106, 117, 115, 116, 105, 102, 121]⟩ : ByteArray), (⟨#[118, 118]⟩ : ByteArray)⟩ : S50) )) (Reps.c2 (show Kd.M k50 _ _ _ (⟨(⟨#[109, 97, 107, 101, 95, 100, 97, 116, 101]⟩ : ByteArray), (⟨#[105, 105, 105, 100]⟩ : ByteArray)⟩ : S50) [.string (⟨#[109, 97, 107, 101, 95, 100, 97, 116, 101]⟩ : ByteArray), .string (⟨#[105, 105, 105, 100]⟩ : ByteArray)] from (k50_mkM _ _ _ (⟨(⟨#[109, 97, 107, 101, 95, 100, 97, 116, 101]⟩ : ByteArray), (⟨#[105, 105, 105, 100]⟩ : ByteArray)⟩ : S50) )) (Reps.c2 (show Kd.M k50 _ _ _ (⟨(⟨#[105, 115, 102, 105, 110, 105, 116, 101]⟩ : ByteArray), (⟨#[100, 98, 32, 115, 98, 32, 122, 98, 32, 118, 98]⟩ : ByteArray)⟩ : S50) [.string (⟨#[105, 115, 102, 105, 110, 105, 116, 101]⟩ : ByteArray), .string (⟨#[100, 98, 32, 115, 98, 32, 122, 98, 32, 118, 98]⟩ : ByteArray)] from (k50_mkM _ _ _ (⟨(⟨#[105, 115, 102, 105, 110, 105, 116, 101]⟩ : ByteArray), (⟨#[100, 98, 32, 115, 98, 32, 122, 98, 32, 118, 98]⟩ : ByteArray)⟩ : S50) )) (Reps.c2 (show Kd.M k50 _ _ _ (⟨(⟨#[111, 118, 101, 114, 108, 97, 112, 115]⟩ : ByteArray), (⟨#[115, 115, 115, 115, 98, 32, 122, 122, 122, 122, 98]⟩ : ByteArray)⟩ : S50) [.string (⟨#[111, 118, 101, 114, 108, 97, 112, 115]⟩ : ByteArray), .string (⟨#[115, 115, 115, 115, 98, 32, 122, 122, 122, 122, 98]⟩ : ByteArray)] from (k50_mkM _ _ _ (⟨(⟨#[111, 118, 101, 114, 108, 97, 112, 115]⟩ : ByteArray), (⟨#[115, 115, 115, 115, 98, 32, 122, 122, 122, 122, 98]⟩ : ByteArray)⟩ : S50) )) (Reps.c2 (show Kd.M k50 _ _ _ (⟨(⟨#[103, 101, 110, 101, 114, 97, 116, 101, 95, 115, 101, 114, 105, 101, 115]⟩ : ByteArray), (⟨#[105, 105, 105, 105, 32, 115, 115, 118, 115, 32, 122, 122, 118, 122]⟩ : ByteArray)⟩ : S50) [.string (⟨#[103, 101, 110, 101, 114, 97, 116, 101, 95, 115, 101, 114, 105, 101, 115]⟩ : ByteArray), .string (⟨#[105, 105, 105, 105, 32, 115, 115, 118, 115, 32, 122, 122, 118, 122]⟩ : ByteArray)] from (k50_mkM _ _ _ (⟨(⟨#[103, 101, 110, 101, 114, 97, 116, 101, 95, 115, 101, 114, 105, 101, 115]⟩ : ByteArray), (⟨#[105, 105, 105, 105, 32, 115, 115, 118, 115, 32, 122, 122, 118, 122]⟩ : ByteArray)⟩ : S50) )) (Reps.c2 (show Kd.M k50 _ _ _ (⟨(⟨#[61]⟩ : ByteArray), (⟨#[105, 105, 98, 32, 110, 110, 98, 32, 105, 110, 98, 32, 110, 105, 98, 32, 116, 116, 98, 32, 100, 100, 98, 32, 115, 115, 98, 32, 122, 122, 98, 32, 118, 118, 98, 32, 98, 98, 98]⟩ : ByteArray)⟩ : S50) [.string (⟨#[61]⟩ : ByteArray), .string (⟨#[105, 105, 98, 32, 110, 110, 98, 32, 105, 110, 98, 32, 110, 105, 98, 32, 116, 116, 98, 32, 100, 100, 98, 32, 115, 115, 98, 32, 122, 122, 98, 32, 118, 118, 98, 32, 98, 98, 98]⟩ : ByteArray)] from (k50_mkM _ _ _ (⟨(⟨#[61]⟩ : ByteArray), (⟨#[105, 105, 98, 32, 110, 110, 98, 32, 105, 110, 98, 32, 110, 105, 98, 32, 116, 116, 98, 32, 100, 100, 98, 32, 115, 115, 98, 32, 122, 122, 98, 32, 118, 118, 98, 32, 98, 98, 98]⟩ : ByteArray)⟩ : S50) )) (Reps.c2 (show Kd.M k50 _ _ _ (⟨(⟨#[60, 62]⟩ : ByteArray), (⟨#[105, 105, 98, 32, 110, 110, 98, 32, 105, 110, 98, 32, 110, 105, 98, 32, 116, 116, 98, 32, 100, 100, 98, 32, 115, 115, 98, 32, 122, 122, 98, 32, 118, 118, 98, 32, 98, 98, 98]⟩ : ByteArray)⟩ : S50) [.string (⟨#[60, 62]⟩ : ByteArray), .string (⟨#[105, 105, 98, 32, 110, 110, 98, 32, 105, 110, 98, 32, 110, 105, 98, 32, 116, 116, 98, 32, 100, 100, 98, 32, 115, 115, 98, 32, 122, 122, 98, 32, 118, 118, 98, 32, 98, 98, 98]⟩ : ByteArray)] from (k50_mkM _ _ _ (⟨(⟨#[60, 62]⟩ : ByteArray), (⟨#[105, 105, 98, 32, 110, 110, 98, 32, 105, 110, 98, 32, 110, 105, 98, 32, 116, 116, 98, 32, 100, 100, 98, 32, 115, 115, 98, 32, 122, 122, 98, 32, 118, 118, 98, 32, 98, 98, 98]⟩ : ByteArray)⟩ : S50) )) (Reps.c2 (show Kd.M k50 _ _ _ (⟨(⟨#[60]⟩ : ByteArray), (⟨#[105, 105, 98, 32, 110, 110, 98, 32, 105, 110, 98, 32, 110, 105, 98, 32, 116, 116, 98, 32, 100, 100, 98, 32, 115, 115, 98, 32, 122, 122, 98, 32, 118, 118, 98]⟩ : ByteArray)⟩ : S50) [.string (⟨#[60]⟩ : ByteArray), .string (⟨#[105, 105, 98, 32, 110, 110, 98, 32, 105, 110, 98, 32, 110, 105, 98, 32, 116, 116, 98, 32, 100, 100, 98, 32, 115, 115, 98, 32, 122, 122, 98, 32, 118, 118, 98]⟩ : ByteArray)] from (k50_mkM _ _ _ (⟨(⟨#[60]⟩ : ByteArray), (⟨#[105, 105, 98, 32, 110, 110, 98, 32, 105, 110, 98, 32, 110, 105, 98, 32, 116, 116, 98, 32, 100, 100, 98, 32, 115, 115, 98, 32, 122, 122, 98, 32, 118, 118, 98]⟩ : ByteArray)⟩ : S50) )) (Reps.c2 (show Kd.M k50 _ _ _ (⟨(⟨#[60, 61]⟩ : ByteArray), (⟨#[105, 105, 98, 32, 110, 110, 98, 32, 105, 110, 98, 32, 110, 105, 98, 32, 116, 116, 98, 32, 100, 100, 98, 32, 115, 115, 98, 32, 122, 122, 98, 32, 118, 118, 98]⟩ : ByteArray)⟩ : S50) [.string (⟨#[60, 61]⟩ : ByteArray), .string (⟨#[105, 105, 98, 32, 110, 110, 98, 32, 105, 110, 98, 32, 110, 105, 98, 32, 116, 116, 98, 32, 100, 100, 98, 32, 115, 115, 98, 32, 122, 122, 98, 32, 118, 118, 98]⟩ : ByteArray)] from (k50_mkM _ _ _ (⟨(⟨#[60, 61]⟩ : ByteArray), (⟨#[105, 105, 98, 32, 110, 110, 98, 32, 105, 110, 98, 32, 110, 105, 98, 32, 116, 116, 98, 32, 100, 100, 98, 32, 115, 115, 98, 32, 122, 122, 98, 32, 118, 118, 98]⟩ : ByteArray)⟩ : S50) )) (Reps.c2 (show Kd.M k50 _ _ _ (⟨(⟨#[62]⟩ : ByteArray), (⟨#[105, 105, 98, 32, 110, 110, 98, 32, 105, 110, 98, 32, 110, 105, 98, 32, 116, 116, 98, 32, 100, 100, 98, 32, 115, 115, 98, 32, 122, 122, 98, 32, 118, 118, 98]⟩ : ByteArray)⟩ : S50) [.string (⟨#[62]⟩ : ByteArray), .string (⟨#[105, 105, 98, 32, 110, 110, 98, 32, 105, 110, 98, 32, 110, 105, 98, 32, 116, 116, 98, 32, 100, 100, 98, 32, 115, 115, 98, 32, 122, 122, 98, 32, 118, 118, 98]⟩ : ByteArray)] from (k50_mkM _ _ _ (⟨(⟨#[62]⟩ : ByteArray), (⟨#[105, 105, 98, 32, 110, 110, 98, 32, 105, 110, 98, 32, 110, 105, 98, 32, 116, 116, 98, 32, 100, 100, 98, 32, 115, 115, 98, 32, 122, 122, 98, 32, 118, 118, 98]⟩ : ByteArray)⟩ : S50) )) (Reps.c2 (show Kd.M k50 _ _ _ (⟨(⟨#[62, 61]⟩ : ByteArray), (⟨#[105, 105, 98, 32, 110, 110, 98, 32, 105, 110, 98, 32, 110, 105, 98, 32, 116, 116, 98, 32, 100, 100, 98, 32, 115, 115, 98, 32, 122, 122, 98, 32, 118, 118, 98]⟩ : ByteArray)⟩ : S50) [.string (⟨#[62, 61]⟩ : ByteArray), .string (⟨#[105, 105, 98, 32, 110, 110, 98, 32, 105, 110, 98, 32, 110, 105, 98, 32, 116, 116, 98, 32, 100, 100, 98, 32, 115, 115, 98, 32, 122, 122, 98, 32, 118, 118, 98]⟩ : ByteArray)] from (k50_mkM _ _ _ (⟨(⟨#[62, 61]⟩ : ByteArray), (⟨#[105, 105, 98, 32, 110, 110, 98, 32, 105, 110, 98, 32, 110, 105, 98, 32, 116, 116, 98, 32, 100, 100, 98, 32, 115, 115, 98, 32, 122, 122, 98, 32, 118, 118, 98]⟩ : ByteArray)⟩ : S50) )) (Reps.none _ _)))))))))))))))))))))))))))))))))); intro v139 w1 ho2 hb hg_ hnew_; clear hg_ hnew_; (first | rw [← Ny138.out] at ho2 | (simp only [Int.reduceToNat] at ho2; rw [← Ny138.out] at ho2)); have n0_ := Aside0.mk (Kd.R_lower ho2 (below_size (by repeat (first | (with_reducible first | exact HB.out | apply below_alloc | apply pw_below_drewN | apply below_drew1) | exact HB.out)))); have n1_ := Aside0.mk (below_step (by repeat (first | (with_reducible first | exact HB.out | apply below_alloc | apply pw_below_drewN | apply below_drew1) | exact HB.out)) hb); clear HB; have HO140 := n0_; have HB := n1_; clear n0_ n1_; clear hb ho2))
  go_ret
  exact ⟨_, by first | rfl | (simp [errW_none, errW_some] <;> rfl) | (simp [*, errW_none, errW_some] <;> rfl), by (with_reducible repeat (first | apply Kd.R_alloc | apply Kd.R_drewN | apply Kd.R_drew)); exact HO140.out, by repeat (first | (with_reducible first | exact HB.out | apply below_alloc | apply pw_below_drewN | apply below_drew1) | exact HB.out)⟩
def stringslite_CutPrefix.f (a0 : ByteArray) (a1 : ByteArray) : Option (ByteArray × Bool) := (stringslite_HasPrefix.f a0 a1).bind fun t141 => (if t141 = true then (if 0 ≤ (a1.size : Int) then (if (a1.size : Int) ≤ (a0.size : Int) then (some (a0.extract ((a1.size : Int) : Int).toNat a0.size, true)) else (none)) else (none)) else (some (a0, false)))
set_option maxHeartbeats 8000000 in
set_option maxRecDepth 100000 in
theorem stringslite_CutPrefix.calls (a0 : ByteArray) (a1 : ByteArray) (r1 : ByteArray) (r2 : Bool) (w : World) (h : stringslite_CutPrefix.f a0 a1 = some (r1, r2)) :
    Calls Tryd.prog 33 #[.string a0, .string a1] w fun e w' => e = .returned (.tuple #[.string r1, .bool r2]) ∧ Drawn0 w w' := by
  have H : ((stringslite_HasPrefix.f a0 a1).bind fun t141 => (if t141 = true then (if 0 ≤ (a1.size : Int) then (if (a1.size : Int) ≤ (a0.size : Int) then (some (a0.extract ((a1.size : Int) : Int).toNat a0.size, true)) else (none)) else (none)) else (some (a0, false)))) = some (r1, r2) := h
  clear h
  replace H := Option.bind_eq_some_iff.mp H
  obtain ⟨t141, A30, H⟩ := H
  replace H : (if t141 = true then (if 0 ≤ (a1.size : Int) then (if (a1.size : Int) ≤ (a0.size : Int) then (some (a0.extract ((a1.size : Int) : Int).toNat a0.size, true)) else (none)) else (none)) else (some (a0, false))) = some (r1, r2) := H
  have A3 := Aside0.mk A30
  clear A30
  by_cases c4 : t141 = true
  · subst c4
    have H1 : (if 0 ≤ (a1.size : Int) then (if (a1.size : Int) ≤ (a0.size : Int) then (some (a0.extract ((a1.size : Int) : Int).toNat a0.size, true)) else (none)) else (none)) = some (r1, r2) := by rw [if_pos rfl] at H; exact H
    clear H
    have H := H1
    clear H1
    by_cases c5 : 0 ≤ (a1.size : Int)
    · rw [if_pos c5] at H
      have c5b0 := eq_true c5
      have c5b1 : decide (0 ≤ (a1.size : Int)) = true := decide_eq_true c5
      clear c5
      by_cases c6 : (a1.size : Int) ≤ (a0.size : Int)
      · rw [if_pos c6] at H
        have c6b0 := eq_true c6
        have c6b1 : decide ((a1.size : Int) ≤ (a0.size : Int)) = true := decide_eq_true c6
        clear c6
        simp only [Option.some.injEq, Prod.mk.injEq] at H
        obtain ⟨rfl, rfl⟩ := H
        go_enter Tryd.func33, Tryd.ntmps33
        go_wp2_with (first | ((with_reducible refine gate_callee (f := 46) rfl ?_); refine goesL_ (some 8) rfl rfl Tryd.func46 (by kernel_rfl) rfl #[.string a0, .string a1] rfl (by (try simp only [List.map_toArray, List.map_cons, List.map_nil]); first | done | rfl | (simp only [List.length_drop, List.length_take]; rfl)) ?_; (with_reducible refine (stringslite_HasPrefix.calls a0 a1 true _ A3.out).mono ?_); rintro e w' ⟨rfl, ⟨nd, rfl⟩⟩; refine ⟨_, rfl, ?_⟩))
        go_ret2
        exact ⟨by first | rfl | (simp; done) | (simp [*]; done), by repeat (first | exact Drawn0.refl _ | apply Drawn0.step)⟩
      · rw [if_neg c6] at H
        exact absurd H (by simp)
    · rw [if_neg c5] at H
      exact absurd H (by simp)
  · replace c4 := Bool.eq_false_iff.mpr c4
    subst c4
    have H1 : (some (a0, false)) = some (r1, r2) := by rw [if_neg (show ¬ (false = true) by decide)] at H; exact H
    clear H
    have H := H1
    clear H1
    simp only [Option.some.injEq, Prod.mk.injEq] at H
    obtain ⟨rfl, rfl⟩ := H
    go_enter Tryd.func33, Tryd.ntmps33
    go_wp2_with (first | ((with_reducible refine gate_callee (f := 46) rfl ?_); refine goesL_ (some 8) rfl rfl Tryd.func46 (by kernel_rfl) rfl #[.string a0, .string a1] rfl (by (try simp only [List.map_toArray, List.map_cons, List.map_nil]); first | done | rfl | (simp only [List.length_drop, List.length_take]; rfl)) ?_; (with_reducible refine (stringslite_HasPrefix.calls a0 a1 false _ A3.out).mono ?_); rintro e w' ⟨rfl, ⟨nd, rfl⟩⟩; refine ⟨_, rfl, ?_⟩))
    go_ret2
    exact ⟨by first | rfl | (simp; done) | (simp [*]; done), by repeat (first | exact Drawn0.refl _ | apply Drawn0.step)⟩
def strings_CutPrefix.f (a0 : ByteArray) (a1 : ByteArray) : Option (ByteArray × Bool) := (stringslite_CutPrefix.f a0 a1).bind fun bt142 => (some (bt142.1, bt142.2))
set_option maxHeartbeats 8000000 in
set_option maxRecDepth 100000 in
theorem strings_CutPrefix.calls (a0 : ByteArray) (a1 : ByteArray) (r1 : ByteArray) (r2 : Bool) (w : World) (h : strings_CutPrefix.f a0 a1 = some (r1, r2)) :
    Calls Tryd.prog 20 #[.string a0, .string a1] w fun e w' => e = .returned (.tuple #[.string r1, .bool r2]) ∧ Drawn0 w w' := by
  have H : ((stringslite_CutPrefix.f a0 a1).bind fun bt142 => (some (bt142.1, bt142.2))) = some (r1, r2) := h
  clear h
  replace H := Option.bind_eq_some_iff.mp H
  obtain ⟨⟨t142, t143⟩, A30, H⟩ := H
  replace H : (some (t142, t143)) = some (r1, r2) := H
  have A3 := Aside0.mk A30
  clear A30
  simp only [Option.some.injEq, Prod.mk.injEq] at H
  obtain ⟨rfl, rfl⟩ := H
  go_enter Tryd.func20, Tryd.ntmps20
  go_wp2_with (first | ((with_reducible refine gate_callee (f := 33) rfl ?_); refine goesL_ (some 8) rfl rfl Tryd.func33 (by kernel_rfl) rfl #[.string a0, .string a1] rfl (by (try simp only [List.map_toArray, List.map_cons, List.map_nil]); first | done | rfl | (simp only [List.length_drop, List.length_take]; rfl)) ?_; (with_reducible refine (stringslite_CutPrefix.calls a0 a1 t142 t143 _ A3.out).mono ?_); rintro e w' ⟨rfl, ⟨nd, rfl⟩⟩; refine ⟨_, rfl, ?_⟩))
  go_ret2
  exact ⟨by first | rfl | (simp; done) | (simp [*]; done), by repeat (first | exact Drawn0.refl _ | apply Drawn0.step)⟩
def kind_Kind.f (k : Nat) (a0 : ByteArray) : Option (Int) := (kind_names.f).bind fun t144 => ((slices_Index_string_string.f k t144 a0).bind fun t147 => (some (wrap64 (t147 + 1))))
theorem kind_Kind.mono : ∀ a0 k, LeO (kind_Kind.f k a0) (kind_Kind.f (k + 1) a0) := by
  intro a0 k
  unfold kind_Kind.f
  repeat' first
      | (with_reducible exact slices_Index_string_string.mono _ _ _)
      | (with_reducible exact LeO.refl _)
      | (with_reducible exact LeO.none _)
      | (with_reducible refine LeO.ite ?_ ?_)
      | (with_reducible refine LeO.bind ?_ (fun _ => ?_))
      | exact slices_Index_string_string.mono _ _ _
      | exact LeO.none _
      | refine LeO.ite ?_ ?_
      | refine LeO.bind ?_ (fun _ => ?_)
set_option maxHeartbeats 8000000 in
set_option maxRecDepth 100000 in
theorem kind_Kind.calls (k : Nat) (a0 : ByteArray) (r : Int) (w : World) (h : kind_Kind.f k a0 = some r) :
    Calls Tryd.prog 13 #[.string a0] w fun e w' => e = .returned (.int .i64 r) ∧ Below w.heap.size w w' := by
  have HB := Aside0.mk (Below.refl w.heap.size w)
  have H : ((kind_names.f).bind fun t144 => ((slices_Index_string_string.f k t144 a0).bind fun t147 => (some (wrap64 (t147 + 1))))) = some r := h
  clear h
  replace H := Option.bind_eq_some_iff.mp H
  obtain ⟨t144, A20, H⟩ := H
  replace H : ((slices_Index_string_string.f k t144 a0).bind fun t147 => (some (wrap64 (t147 + 1)))) = some r := H
  have A2 := Aside0.mk A20
  clear A20
  replace H := Option.bind_eq_some_iff.mp H
  obtain ⟨t147, A30, H⟩ := H
  replace H : (some (wrap64 (t147 + 1))) = some r := H
  have A3 := Aside0.mk A30
  clear A30
  obtain rfl := Option.some.inj H
  go_enter Tryd.func13, Tryd.ntmps13
  go_wp2_with (first | ((with_reducible refine gate_callee (f := 25) rfl ?_); refine goesL_ (some 3) rfl rfl Tryd.func25 (by kernel_rfl) rfl #[] rfl (by (try simp only [List.map_toArray, List.map_cons, List.map_nil]); first | done | rfl | (simp only [List.length_drop, List.length_take]; rfl)) ?_; (with_reducible refine (kind_names.calls  t144 _ A2.out).mono ?_); rintro e w4 ⟨v145, rfl, ho0, hb⟩; refine ⟨_, rfl, ?_⟩; have n0_ := Aside0.mk (Kd.R_lower ho0 (below_size (by repeat (first | (with_reducible first | exact HB.out | apply below_alloc | apply pw_below_drewN | apply below_drew1) | exact HB.out)))); have n1_ := Aside0.mk (below_step (by repeat (first | (with_reducible first | exact HB.out | apply below_alloc | apply pw_below_drewN | apply below_drew1) | exact HB.out)) hb); clear HB; have HO146 := n0_; have HB := n1_; clear n0_ n1_; (try clear hb); (try clear hb2); (try clear hk); (try clear hi); (try clear ho0); obtain ⟨Ao5, co5, eo5⟩ := Kd.R_slice HO146.out; subst eo5) | ((with_reducible refine gate_callee (f := 29) rfl ?_); refine goesL_ (some 5) rfl rfl Tryd.func29 (by kernel_rfl) rfl #[.slice Ao5 t144.length co5, .string a0] rfl (by (try simp only [List.map_toArray, List.map_cons, List.map_nil]); first | done | rfl | (simp only [List.length_drop, List.length_take]; rfl)) ?_; (with_reducible refine (slices_Index_string_string.calls k _ _ t144 a0 t147 _ ?side1 ?side2 A3.out).mono ?_); (case side1 => repeat (first | exact (Kd.R_reads' HO146.out).2.2 | (with_reducible refine Kd.C_alloc ?_ _) | (with_reducible refine Kd.C_drewN ?_ _) | (with_reducible refine Kd.C_drew ?_))); (case side2 => exact (Kd.R_reads' HO146.out).2.1); rintro e w' ⟨rfl, ⟨nd, rfl⟩⟩; refine ⟨_, rfl, ?_⟩))
  go_ret
  exact ⟨by first | rfl | (simp [errW_none, errW_some] <;> rfl) | (simp [*, errW_none, errW_some] <;> rfl), by repeat (first | (with_reducible first | exact HB.out | apply below_alloc | apply pw_below_drewN | apply below_drew1) | exact HB.out)⟩
end Go.Proofs.YtfgogfdbjbnlbaaDoor.PExpr
end
