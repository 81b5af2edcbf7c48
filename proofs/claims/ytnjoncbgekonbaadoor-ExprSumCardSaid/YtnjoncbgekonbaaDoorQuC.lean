/- What the claim of CardExprSum needs, out of the session's texts, in their order. -/
import Derived.Test.YtnjoncbgekonbaaDoorQuB
import Derived.Test.YtnjoncbgekonbaaDoorProg
import Derived.Shelf.Abstract
import Derived.Lib.OthersKept
import Derived.Outline
section
namespace Go.Proofs.YtnjoncbgekonbaaDoor.PExpr
open Go.RowKit Go.Proofs.YtnjoncbgekonbaaDoorW.PrintWords Go.Proofs.YtnjoncbgekonbaaDoorW.PrintLast Go.Proofs.YtnjoncbgekonbaaDoorW.PrintMore
attribute [local go_sem] max2_int min2_int max_two min_two max_three min_three max_four min_four   -- for this text's walks alone
set_option linter.unusedVariables false
set_option linter.unusedSimpArgs false
def errW : Option Int → Value
  | none => .nilIface
  | some c => .iface 0 (.int .i64 c)
theorem errW_none : errW none = .nilIface := rfl
theorem errW_some (c : Int) : errW (some c) = .iface 0 (.int .i64 c) := rfl
theorem info9 : (Tryd.prog.info? 9).map (fun i => (i.zero, i.size, i.bytes)) = some (some (.string ⟨#[]⟩), 1, 16) := by kernel_rfl
theorem info32 : (Tryd.prog.info? 32).map (fun i => (i.zero, i.size, i.bytes)) = some (some (.agg #[(.int .i64 0), (.string ⟨#[]⟩), (.slice none 0 0), (.int .i64 0)]), 4, 56) := by kernel_rfl
theorem info59 : (Tryd.prog.info? 59).map (fun i => (i.zero, i.size, i.bytes)) = some (some (.agg #[(.int .i64 0), (.string ⟨#[]⟩), (.int .i64 0)]), 3, 32) := by kernel_rfl
structure S59 where
  f0 : Int
  f1 : ByteArray
  f2 : Int
def z59 : S59 := ⟨(0 : Int), (⟨#[]⟩ : ByteArray), (0 : Int)⟩
def k59 : Kd S59 := Kd.iso (Kd.pair (Kd.int .i64) (Kd.pair Kd.string (Kd.int .i64))) (fun x : S59 => (x.f0, x.f1, x.f2))
theorem k59_open {w : World} {x : S59} {cs : List Value} (h : k59.K w x cs) : cs = [.int .i64 x.f0, .string x.f1, .int .i64 x.f2] := by
  obtain ⟨_, _, rfl, rfl, ⟨_, _, rfl, rfl, rfl⟩⟩ := h
  exact rfl
theorem k59_mk (w : World) (x : S59)  : k59.K w x [.int .i64 x.f0, .string x.f1, .int .i64 x.f2] := ⟨[.int .i64 x.f0], [.string x.f1, .int .i64 x.f2], rfl, rfl, ⟨[.string x.f1], [.int .i64 x.f2], rfl, rfl, rfl⟩⟩
theorem k59_mkM (w : World) (base : Nat) (ok : Nat → Prop) (x : S59)  : k59.M w base ok x [.int .i64 x.f0, .string x.f1, .int .i64 x.f2] := ⟨[.int .i64 x.f0], [.string x.f1, .int .i64 x.f2], rfl, rfl, ⟨[.string x.f1], [.int .i64 x.f2], rfl, rfl, rfl⟩⟩
def rd_T59 (xs : List S59) (i : Int) : S59 := xs.getD i.toNat z59
theorem at_T59 {w : World} {A : Option Addr} {n : Nat} {xs : List S59} (h : Kd.C k59 w A n xs) (i : Int) (h0 : 0 ≤ i) (h1 : i < n) : ∃ ad , A = some ad ∧ w.cell? (ad.add (i.toNat * 3)) = some (.int .i64 (rd_T59 xs i).f0) ∧ w.cell? ⟨(ad.add (i.toNat * 3)).block, (ad.add (i.toNat * 3)).off + 1, none⟩ = some (.string (rd_T59 xs i).f1) ∧ w.cell? ⟨(ad.add (i.toNat * 3)).block, (ad.add (i.toNat * 3)).off + 2, none⟩ = some (.int .i64 (rd_T59 xs i).f2) := by
  obtain ⟨ad, c, e, _, hK, hc0⟩ := Kd.C_get h z59 i h0 h1
  have hc : ∀ j u, c[j]? = some u → w.cell? (ad.add (i.toNat * 3 + j)) = some u := hc0
  obtain rfl := k59_open hK
  exact ⟨ad, e, hc 0 _ rfl, by rw [← add_field _ _ 1 (by omega)]; exact hc 1 _ rfl, by rw [← add_field _ _ 2 (by omega)]; exact hc 2 _ rfl⟩
structure S50 where
  f0 : Int
  f1 : ByteArray
  f2 : Int
def z50 : S50 := ⟨(0 : Int), (⟨#[]⟩ : ByteArray), (0 : Int)⟩
def k50 : Kd S50 := Kd.iso (Kd.pair (Kd.int .i64) (Kd.pair Kd.string (Kd.int .i64))) (fun x : S50 => (x.f0, x.f1, x.f2))
theorem k50_open {w : World} {x : S50} {cs : List Value} (h : k50.K w x cs) : cs = [.int .i64 x.f0, .string x.f1, .int .i64 x.f2] := by
  obtain ⟨_, _, rfl, rfl, ⟨_, _, rfl, rfl, rfl⟩⟩ := h
  exact rfl
theorem k50_mk (w : World) (x : S50)  : k50.K w x [.int .i64 x.f0, .string x.f1, .int .i64 x.f2] := ⟨[.int .i64 x.f0], [.string x.f1, .int .i64 x.f2], rfl, rfl, ⟨[.string x.f1], [.int .i64 x.f2], rfl, rfl, rfl⟩⟩
def rd_T50 (xs : List S50) (i : Int) : S50 := xs.getD i.toNat z50
theorem at_T50 {w : World} {A : Option Addr} {n : Nat} {xs : List S50} (h : Kd.C k50 w A n xs) (i : Int) (h0 : 0 ≤ i) (h1 : i < n) : ∃ ad , A = some ad ∧ w.cell? (ad.add (i.toNat * 3)) = some (.int .i64 (rd_T50 xs i).f0) ∧ w.cell? ⟨(ad.add (i.toNat * 3)).block, (ad.add (i.toNat * 3)).off + 1, none⟩ = some (.string (rd_T50 xs i).f1) ∧ w.cell? ⟨(ad.add (i.toNat * 3)).block, (ad.add (i.toNat * 3)).off + 2, none⟩ = some (.int .i64 (rd_T50 xs i).f2) := by
  obtain ⟨ad, c, e, _, hK, hc0⟩ := Kd.C_get h z50 i h0 h1
  have hc : ∀ j u, c[j]? = some u → w.cell? (ad.add (i.toNat * 3 + j)) = some u := hc0
  obtain rfl := k50_open hK
  exact ⟨ad, e, hc 0 _ rfl, by rw [← add_field _ _ 1 (by omega)]; exact hc 1 _ rfl, by rw [← add_field _ _ 2 (by omega)]; exact hc 2 _ rfl⟩
structure S24 where
  f0 : Int
  f1 : ByteArray
  f2 : (List S24)
  f3 : Int
def z24 : S24 := ⟨(0 : Int), (⟨#[]⟩ : ByteArray), ([] : List S24), (0 : Int)⟩
def F24 (d : Kd S24) : Kd S24 := Kd.iso (Kd.pair (Kd.int .i64) (Kd.pair Kd.string (Kd.pair (Kd.slice 24 d) (Kd.int .i64)))) (fun x : S24 => (x.f0, x.f1, x.f2, x.f3))
theorem mono24 : Kd.Mono F24 := Kd.mono_iso _ (Kd.mono_pair (Kd.mono_const _) (Kd.mono_pair (Kd.mono_const _) (Kd.mono_pair (Kd.mono_slice 24 Kd.mono_id) (Kd.mono_const _))))
theorem sub24 : Kd.Sub F24 [24] := Kd.sub_iso _ (Kd.sub_pair (Kd.sub_const _ (by decide)) (Kd.sub_pair (Kd.sub_const _ (by decide)) (Kd.sub_pair (Kd.sub_slice 24 (by decide) Kd.sub_id) (Kd.sub_const _ (by decide)))))
theorem sz24 : ∀ n, (Kd.upto F24 4 [24] n).sz = 4 := Kd.upto_sz (fun _ => rfl)
def k24 : Kd S24 := Kd.fix F24 4 [24] sz24 (Kd.upto_E sub24)
theorem k24_open {w : World} {x : S24} {cs : List Value} (h : k24.K w x cs) : ∃ A2 c2, cs = [.int .i64 x.f0, .string x.f1, .slice A2 x.f2.length c2, .int .i64 x.f3] ∧ x.f2.length ≤ c2 ∧ k24.C w A2 x.f2.length x.f2 := by
  obtain ⟨n, h⟩ := h
  cases n with
  | zero => exact h.elim
  | succ n =>
    obtain ⟨_, _, rfl, rfl, ⟨_, _, rfl, rfl, ⟨_, _, rfl, ⟨A2, c2, rfl, l2, g2⟩, rfl⟩⟩⟩ := h
    exact ⟨A2, c2, rfl, l2, Kd.fix_C g2⟩
theorem k24_openM {w : World} {base : Nat} {ok : Nat → Prop} {x : S24} {cs : List Value} (h : k24.M w base ok x cs) : ∃ v2, cs = [.int .i64 x.f0, .string x.f1, v2, .int .i64 x.f3] ∧ k24.R 24 w base ok v2 x.f2 := by
  obtain ⟨n, h⟩ := h
  cases n with
  | zero => exact h.elim
  | succ n =>
    obtain ⟨_, _, rfl, rfl, ⟨_, _, rfl, rfl, ⟨_, _, rfl, ⟨v2, rfl, g2⟩, rfl⟩⟩⟩ := h
    exact ⟨v2, rfl, Kd.fix_R g2⟩
theorem k24_mkM (w : World) (base : Nat) (ok : Nat → Prop) (x : S24) {v2 : Value} (g2 : k24.R 24 w base ok v2 x.f2) : k24.M w base ok x [.int .i64 x.f0, .string x.f1, v2, .int .i64 x.f3] := by
  obtain ⟨n2, q2⟩ := Kd.fix_R_back mono24 g2
  have r2 := Kd.upto_R_le mono24 sz24 (show n2 ≤ n2 by omega) q2
  exact ⟨n2 + 1, ⟨[.int .i64 x.f0], [.string x.f1, v2, .int .i64 x.f3], rfl, rfl, ⟨[.string x.f1], [v2, .int .i64 x.f3], rfl, rfl, ⟨[v2], [.int .i64 x.f3], rfl, ⟨v2, rfl, r2⟩, rfl⟩⟩⟩⟩
def rd_T24 (xs : List S24) (i : Int) : S24 := xs.getD i.toNat z24
theorem at_T24 {w : World} {A : Option Addr} {n : Nat} {xs : List S24} (h : Kd.C k24 w A n xs) (i : Int) (h0 : 0 ≤ i) (h1 : i < n) : ∃ ad A2 c2, A = some ad ∧ w.cell? (ad.add (i.toNat * 4)) = some (.int .i64 (rd_T24 xs i).f0) ∧ w.cell? ⟨(ad.add (i.toNat * 4)).block, (ad.add (i.toNat * 4)).off + 1, none⟩ = some (.string (rd_T24 xs i).f1) ∧ w.cell? ⟨(ad.add (i.toNat * 4)).block, (ad.add (i.toNat * 4)).off + 2, none⟩ = some (.slice A2 (rd_T24 xs i).f2.length c2) ∧ w.cell? ⟨(ad.add (i.toNat * 4)).block, (ad.add (i.toNat * 4)).off + 3, none⟩ = some (.int .i64 (rd_T24 xs i).f3) ∧ (rd_T24 xs i).f2.length ≤ c2 ∧ k24.C w A2 (rd_T24 xs i).f2.length (rd_T24 xs i).f2 := by
  obtain ⟨ad, c, e, _, hK, hc0⟩ := Kd.C_get h z24 i h0 h1
  have hc : ∀ j u, c[j]? = some u → w.cell? (ad.add (i.toNat * 4 + j)) = some u := hc0
  obtain ⟨A2, c2, rfl, l2, g2⟩ := k24_open hK
  exact ⟨ad, A2, c2, e, hc 0 _ rfl, by rw [← add_field _ _ 1 (by omega)]; exact hc 1 _ rfl, by rw [← add_field _ _ 2 (by omega)]; exact hc 2 _ rfl, by rw [← add_field _ _ 3 (by omega)]; exact hc 3 _ rfl, l2, g2⟩
structure S32 where
  f0 : Int
  f1 : ByteArray
  f2 : (List S32)
  f3 : Int
def z32 : S32 := ⟨(0 : Int), (⟨#[]⟩ : ByteArray), ([] : List S32), (0 : Int)⟩
def F32 (d : Kd S32) : Kd S32 := Kd.iso (Kd.pair (Kd.int .i64) (Kd.pair Kd.string (Kd.pair (Kd.slice 32 d) (Kd.int .i64)))) (fun x : S32 => (x.f0, x.f1, x.f2, x.f3))
theorem mono32 : Kd.Mono F32 := Kd.mono_iso _ (Kd.mono_pair (Kd.mono_const _) (Kd.mono_pair (Kd.mono_const _) (Kd.mono_pair (Kd.mono_slice 32 Kd.mono_id) (Kd.mono_const _))))
theorem sub32 : Kd.Sub F32 [32] := Kd.sub_iso _ (Kd.sub_pair (Kd.sub_const _ (by decide)) (Kd.sub_pair (Kd.sub_const _ (by decide)) (Kd.sub_pair (Kd.sub_slice 32 (by decide) Kd.sub_id) (Kd.sub_const _ (by decide)))))
theorem sz32 : ∀ n, (Kd.upto F32 4 [32] n).sz = 4 := Kd.upto_sz (fun _ => rfl)
def k32 : Kd S32 := Kd.fix F32 4 [32] sz32 (Kd.upto_E sub32)
theorem k32_open {w : World} {x : S32} {cs : List Value} (h : k32.K w x cs) : ∃ A2 c2, cs = [.int .i64 x.f0, .string x.f1, .slice A2 x.f2.length c2, .int .i64 x.f3] ∧ x.f2.length ≤ c2 ∧ k32.C w A2 x.f2.length x.f2 := by
  obtain ⟨n, h⟩ := h
  cases n with
  | zero => exact h.elim
  | succ n =>
    obtain ⟨_, _, rfl, rfl, ⟨_, _, rfl, rfl, ⟨_, _, rfl, ⟨A2, c2, rfl, l2, g2⟩, rfl⟩⟩⟩ := h
    exact ⟨A2, c2, rfl, l2, Kd.fix_C g2⟩
theorem k32_mkM (w : World) (base : Nat) (ok : Nat → Prop) (x : S32) {v2 : Value} (g2 : k32.R 32 w base ok v2 x.f2) : k32.M w base ok x [.int .i64 x.f0, .string x.f1, v2, .int .i64 x.f3] := by
  obtain ⟨n2, q2⟩ := Kd.fix_R_back mono32 g2
  have r2 := Kd.upto_R_le mono32 sz32 (show n2 ≤ n2 by omega) q2
  exact ⟨n2 + 1, ⟨[.int .i64 x.f0], [.string x.f1, v2, .int .i64 x.f3], rfl, rfl, ⟨[.string x.f1], [v2, .int .i64 x.f3], rfl, rfl, ⟨[v2], [.int .i64 x.f3], rfl, ⟨v2, rfl, r2⟩, rfl⟩⟩⟩⟩
def rd_T32 (xs : List S32) (i : Int) : S32 := xs.getD i.toNat z32
theorem at_T32 {w : World} {A : Option Addr} {n : Nat} {xs : List S32} (h : Kd.C k32 w A n xs) (i : Int) (h0 : 0 ≤ i) (h1 : i < n) : ∃ ad A2 c2, A = some ad ∧ w.cell? (ad.add (i.toNat * 4)) = some (.int .i64 (rd_T32 xs i).f0) ∧ w.cell? ⟨(ad.add (i.toNat * 4)).block, (ad.add (i.toNat * 4)).off + 1, none⟩ = some (.string (rd_T32 xs i).f1) ∧ w.cell? ⟨(ad.add (i.toNat * 4)).block, (ad.add (i.toNat * 4)).off + 2, none⟩ = some (.slice A2 (rd_T32 xs i).f2.length c2) ∧ w.cell? ⟨(ad.add (i.toNat * 4)).block, (ad.add (i.toNat * 4)).off + 3, none⟩ = some (.int .i64 (rd_T32 xs i).f3) ∧ (rd_T32 xs i).f2.length ≤ c2 ∧ k32.C w A2 (rd_T32 xs i).f2.length (rd_T32 xs i).f2 := by
  obtain ⟨ad, c, e, _, hK, hc0⟩ := Kd.C_get h z32 i h0 h1
  have hc : ∀ j u, c[j]? = some u → w.cell? (ad.add (i.toNat * 4 + j)) = some u := hc0
  obtain ⟨A2, c2, rfl, l2, g2⟩ := k32_open hK
  exact ⟨ad, A2, c2, e, hc 0 _ rfl, by rw [← add_field _ _ 1 (by omega)]; exact hc 1 _ rfl, by rw [← add_field _ _ 2 (by omega)]; exact hc 2 _ rfl, by rw [← add_field _ _ 3 (by omega)]; exact hc 3 _ rfl, l2, g2⟩
end Go.Proofs.YtnjoncbgekonbaaDoor.PExpr
end
section
namespace Go.Proofs.YtnjoncbgekonbaaDoor.PExpr
open Go.RowKit Go.Proofs.YtnjoncbgekonbaaDoorW.PrintWords Go.Proofs.YtnjoncbgekonbaaDoorW.PrintLast Go.Proofs.YtnjoncbgekonbaaDoorW.PrintMore
attribute [local go_sem] max2_int min2_int max_two min_two max_three min_three max_four min_four   -- for this text's walks alone
set_option linter.unusedVariables false
set_option linter.unusedSimpArgs false
mutual
def word_kind.j1 : Nat → Int → Option (Int)
  | 0, _ => none
  | k + 1, x0 => if x0 = 32 then (some 0) else (if x0 = 9 then (some 0) else (if x0 = 10 then (some 0) else (if x0 = 13 then (some 0) else (if x0 < 32 then (some 4) else (if x0 = 127 then (some 4) else (some 3))))))
def word_kind.j0 : Nat → Int → Bool → Option (Int)
  | 0, _, _ => none
  | k + 1, x0, x3 => if x3 = true then (some 1) else (if x0 = 95 then (some 2) else (if x0 > 127 then (some 2) else (if (Go.bits .or .i32 x0 32) ≥ 97 then (if (Go.bits .or .i32 x0 32) ≤ 122 then (some 2) else (word_kind.j1 k x0)) else (word_kind.j1 k x0))))
end
def word_kind.f (k : Nat) (a0 : Int) : Option (Int) := if a0 ≥ 48 then (word_kind.j0 k a0 (decide (a0 ≤ 57))) else (word_kind.j0 k a0 false)
theorem word_kind.mono_l : ∀ k, (∀ y0, LeO (word_kind.j1 k y0) (word_kind.j1 (k + 1) y0)) ∧ (∀ y0 y1, LeO (word_kind.j0 k y0 y1) (word_kind.j0 (k + 1) y0 y1))
  | 0 => ⟨fun _ r h => by simp [word_kind.j1] at h, fun _ _ r h => by simp [word_kind.j0] at h⟩
  | k + 1 => by
    obtain ⟨ih0, ih1⟩ := word_kind.mono_l k
    refine ⟨?_, ?_⟩
    · intro y0
      unfold word_kind.j1
      repeat' first
      | (with_reducible exact ih0 _)
      | (with_reducible exact ih1 _ _)
      | (with_reducible exact LeO.refl _)
      | (with_reducible exact LeO.none _)
      | (with_reducible refine LeO.ite ?_ ?_)
      | (with_reducible refine LeO.bind ?_ (fun _ => ?_))
      | exact ih0 _
      | exact ih1 _ _
      | exact LeO.none _
      | refine LeO.ite ?_ ?_
      | refine LeO.bind ?_ (fun _ => ?_)
    · intro y0 y1
      unfold word_kind.j0
      repeat' first
      | (with_reducible exact ih0 _)
      | (with_reducible exact ih1 _ _)
      | (with_reducible exact LeO.refl _)
      | (with_reducible exact LeO.none _)
      | (with_reducible refine LeO.ite ?_ ?_)
      | (with_reducible refine LeO.bind ?_ (fun _ => ?_))
      | exact ih0 _
      | exact ih1 _ _
      | exact LeO.none _
      | refine LeO.ite ?_ ?_
      | refine LeO.bind ?_ (fun _ => ?_)
theorem word_kind.mono : ∀ a0 k, LeO (word_kind.f k a0) (word_kind.f (k + 1) a0) := by
  intro a0 k
  obtain ⟨ih0, ih1⟩ := word_kind.mono_l k
  unfold word_kind.f
  repeat' first
      | (with_reducible exact ih0 _)
      | (with_reducible exact ih1 _ _)
      | (with_reducible exact LeO.refl _)
      | (with_reducible exact LeO.none _)
      | (with_reducible refine LeO.ite ?_ ?_)
      | (with_reducible refine LeO.bind ?_ (fun _ => ?_))
      | exact ih0 _
      | exact ih1 _ _
      | exact LeO.none _
      | refine LeO.ite ?_ ?_
      | refine LeO.bind ?_ (fun _ => ?_)
set_option maxHeartbeats 8000000 in
set_option maxRecDepth 100000 in
theorem word_kind.calls (k : Nat) (a0 : Int) (r : Int) (w : World) (h : word_kind.f k a0 = some r) :
    Calls Tryd.prog 18 #[.int .i32 a0] w fun e w' => e = .returned (.int .i64 r) ∧ Drawn0 w w' := by
  have H : (if a0 ≥ 48 then (word_kind.j0 k a0 (decide (a0 ≤ 57))) else (word_kind.j0 k a0 false)) = some r := h
  clear h
  have HC2 := Aside0.mk H
  clear H
  go_enter Tryd.func18, Tryd.ntmps18
  go_upto_block 0 with (fail)
  go_cut [] (fun wc => ∃ (kq : Nat), Aside0 (word_kind.j1 kq a0 = some r) ∧ Aside0 (kq ≤ k) ∧ Drawn0 w wc)
  case first =>
    have H := HC2.out
    clear HC2
    have HC3 := Aside0.mk H
    clear H
    go_upto_region 1 with (fail)
    go_cut [3] (fun v3 wc => ∃ (kq : Nat) (x3_2 : Bool), v3 = .bool x3_2 ∧ Aside0 (word_kind.j0 kq a0 x3_2 = some r) ∧ Aside0 (kq ≤ k) ∧ Drawn0 w wc)
    case first =>
      have H := HC3.out
      clear HC3
      by_cases c4 : a0 ≥ 48
      · rw [if_pos c4] at H
        have c4b0 : decide (48 ≤ a0) = true := decide_eq_true c4
        clear c4
        (first | rw [c4b0] | (simp only [i64_w, i32_w]; rw [c4b0]) | skip)
        have H' := Aside0.mk H
        clear H
        go_wp2
        go_meet
        case rel => exact ⟨_, (decide (a0 ≤ 57)), (by first | rfl | (simp; done) | (simp [*]; done)), H', ⟨by first | omega | exact Nat.le_refl _⟩, by repeat (first | exact Drawn0.refl _ | apply Drawn0.step)⟩
      · rw [if_neg c4] at H
        have c4b0 : decide (48 ≤ a0) = false := decide_eq_false c4
        clear c4
        (first | rw [c4b0] | (simp only [i64_w, i32_w]; rw [c4b0]) | skip)
        have H' := Aside0.mk H
        clear H
        go_wp2
        go_meet
        case rel => exact ⟨_, (false), (by first | rfl | (simp; done) | (simp [*]; done)), H', ⟨by first | omega | exact Nat.le_refl _⟩, by repeat (first | exact Drawn0.refl _ | apply Drawn0.step)⟩
    case rest =>
      clear HC3
      try clear c1
      try clear p2
      try clear c4
      try clear c4b0
      obtain ⟨kq, x3_2, rfl, HA, HJ2, ⟨mc2, rfl⟩⟩ := hcut
      cases kq with
      | zero => exact absurd HA.out (by simp [word_kind.j0])
      | succ kj2 =>
        have H := HA.out
        clear HA
        simp only [word_kind.j0] at H
        by_cases c5 : x3_2 = true
        · subst c5
          have H1 : (some 1) = some r := by rw [if_pos rfl] at H; exact H
          clear H
          have H := H1
          clear H1
          obtain rfl := Option.some.inj H
          go_wp2
          go_ret
          exact ⟨by first | rfl | (simp; done) | (simp [*]; done), by repeat (first | exact Drawn0.refl _ | apply Drawn0.step)⟩
        · replace c5 := Bool.eq_false_iff.mpr c5
          subst c5
          have H1 : (if a0 = 95 then (some 2) else (if a0 > 127 then (some 2) else (if (Go.bits .or .i32 a0 32) ≥ 97 then (if (Go.bits .or .i32 a0 32) ≤ 122 then (some 2) else (word_kind.j1 kj2 a0)) else (word_kind.j1 kj2 a0)))) = some r := by rw [if_neg (show ¬ (false = true) by decide)] at H; exact H
          clear H
          have H := H1
          clear H1
          by_cases c6 : a0 = 95
          · rw [if_pos c6] at H
            have c6b0 : (a0 == 95) = true := beq_iff_eq.mpr c6
            have c6b1 : (a0 != 95) = false := bne_eq_false_iff_eq.mpr c6
            clear c6
            obtain rfl := Option.some.inj H
            go_wp2
            go_ret
            exact ⟨by first | rfl | (simp; done) | (simp [*]; done), by repeat (first | exact Drawn0.refl _ | apply Drawn0.step)⟩
          · rw [if_neg c6] at H
            have c6b0 : (a0 == 95) = false := beq_eq_false_iff_ne.mpr c6
            have c6b1 : (a0 != 95) = true := bne_iff_ne.mpr c6
            by_cases c7 : a0 > 127
            · rw [if_pos c7] at H
              have c7b0 : decide (127 < a0) = true := decide_eq_true c7
              clear c7
              obtain rfl := Option.some.inj H
              go_wp2
              go_ret
              exact ⟨by first | rfl | (simp; done) | (simp [*]; done), by repeat (first | exact Drawn0.refl _ | apply Drawn0.step)⟩
            · rw [if_neg c7] at H
              have c7b0 : decide (127 < a0) = false := decide_eq_false c7
              clear c7
              by_cases c8 : (Go.bits .or .i32 a0 32) ≥ 97
              · rw [if_pos c8] at H
                have c8b0 : decide (97 ≤ (Go.bits .or .i32 a0 32)) = true := decide_eq_true c8
                clear c8
                by_cases c9 : (Go.bits .or .i32 a0 32) ≤ 122
                · rw [if_pos c9] at H
                  have c9b0 : decide ((Go.bits .or .i32 a0 32) ≤ 122) = true := decide_eq_true c9
                  clear c9
                  obtain rfl := Option.some.inj H
                  go_wp2
                  go_ret
                  exact ⟨by first | rfl | (simp; done) | (simp [*]; done), by repeat (first | exact Drawn0.refl _ | apply Drawn0.step)⟩
                · rw [if_neg c9] at H
                  have c9b0 : decide ((Go.bits .or .i32 a0 32) ≤ 122) = false := decide_eq_false c9
                  clear c9
                  have H' := Aside0.mk H
                  clear H
                  go_wp2
                  go_meet
                  case rel => exact ⟨_, H', ⟨by have := HJ2.out; first | omega | exact Nat.le_refl _⟩, by repeat (first | exact Drawn0.refl _ | apply Drawn0.step)⟩
              · rw [if_neg c8] at H
                have c8b0 : decide (97 ≤ (Go.bits .or .i32 a0 32)) = false := decide_eq_false c8
                clear c8
                have H' := Aside0.mk H
                clear H
                go_wp2
                go_meet
                case rel => exact ⟨_, H', ⟨by have := HJ2.out; first | omega | exact Nat.le_refl _⟩, by repeat (first | exact Drawn0.refl _ | apply Drawn0.step)⟩
  case rest =>
    clear HC2
    try clear c1
    try clear c2
    try clear p2
    try clear c4
    try clear c4b0
    try clear c5
    try clear c6
    try clear c6b0
    try clear c6b1
    try clear c7
    try clear c7b0
    try clear c8
    try clear c8b0
    try clear c9
    try clear c9b0
    try clear p2
    obtain ⟨kq, HA, HJ1, ⟨mc1, rfl⟩⟩ := hcut
    cases kq with
    | zero => exact absurd HA.out (by simp [word_kind.j1])
    | succ kj1 =>
      have H := HA.out
      clear HA
      simp only [word_kind.j1] at H
      by_cases c10 : a0 = 32
      · rw [if_pos c10] at H
        have c10b0 : (a0 == 32) = true := beq_iff_eq.mpr c10
        have c10b1 : (a0 != 32) = false := bne_eq_false_iff_eq.mpr c10
        clear c10
        obtain rfl := Option.some.inj H
        go_wp2
        go_ret
        exact ⟨by first | rfl | (simp; done) | (simp [*]; done), by repeat (first | exact Drawn0.refl _ | apply Drawn0.step)⟩
      · rw [if_neg c10] at H
        have c10b0 : (a0 == 32) = false := beq_eq_false_iff_ne.mpr c10
        have c10b1 : (a0 != 32) = true := bne_iff_ne.mpr c10
        by_cases c11 : a0 = 9
        · rw [if_pos c11] at H
          have c11b0 : (a0 == 9) = true := beq_iff_eq.mpr c11
          have c11b1 : (a0 != 9) = false := bne_eq_false_iff_eq.mpr c11
          clear c11
          obtain rfl := Option.some.inj H
          go_wp2
          go_ret
          exact ⟨by first | rfl | (simp; done) | (simp [*]; done), by repeat (first | exact Drawn0.refl _ | apply Drawn0.step)⟩
        · rw [if_neg c11] at H
          have c11b0 : (a0 == 9) = false := beq_eq_false_iff_ne.mpr c11
          have c11b1 : (a0 != 9) = true := bne_iff_ne.mpr c11
          by_cases c12 : a0 = 10
          · rw [if_pos c12] at H
            have c12b0 : (a0 == 10) = true := beq_iff_eq.mpr c12
            have c12b1 : (a0 != 10) = false := bne_eq_false_iff_eq.mpr c12
            clear c12
            obtain rfl := Option.some.inj H
            go_wp2
            go_ret
            exact ⟨by first | rfl | (simp; done) | (simp [*]; done), by repeat (first | exact Drawn0.refl _ | apply Drawn0.step)⟩
          · rw [if_neg c12] at H
            have c12b0 : (a0 == 10) = false := beq_eq_false_iff_ne.mpr c12
            have c12b1 : (a0 != 10) = true := bne_iff_ne.mpr c12
            by_cases c13 : a0 = 13
            · rw [if_pos c13] at H
              have c13b0 : (a0 == 13) = true := beq_iff_eq.mpr c13
              have c13b1 : (a0 != 13) = false := bne_eq_false_iff_eq.mpr c13
              clear c13
              obtain rfl := Option.some.inj H
              go_wp2
              go_ret
              exact ⟨by first | rfl | (simp; done) | (simp [*]; done), by repeat (first | exact Drawn0.refl _ | apply Drawn0.step)⟩
            · rw [if_neg c13] at H
              have c13b0 : (a0 == 13) = false := beq_eq_false_iff_ne.mpr c13
              have c13b1 : (a0 != 13) = true := bne_iff_ne.mpr c13
              by_cases c14 : a0 < 32
              · rw [if_pos c14] at H
                have c14b0 : decide (a0 < 32) = true := decide_eq_true c14
                clear c14
                obtain rfl := Option.some.inj H
                go_wp2
                go_ret
                exact ⟨by first | rfl | (simp; done) | (simp [*]; done), by repeat (first | exact Drawn0.refl _ | apply Drawn0.step)⟩
              · rw [if_neg c14] at H
                have c14b0 : decide (a0 < 32) = false := decide_eq_false c14
                clear c14
                by_cases c15 : a0 = 127
                · rw [if_pos c15] at H
                  have c15b0 : (a0 == 127) = true := beq_iff_eq.mpr c15
                  have c15b1 : (a0 != 127) = false := bne_eq_false_iff_eq.mpr c15
                  clear c15
                  obtain rfl := Option.some.inj H
                  go_wp2
                  go_ret
                  exact ⟨by first | rfl | (simp; done) | (simp [*]; done), by repeat (first | exact Drawn0.refl _ | apply Drawn0.step)⟩
                · rw [if_neg c15] at H
                  have c15b0 : (a0 == 127) = false := beq_eq_false_iff_ne.mpr c15
                  have c15b1 : (a0 != 127) = true := bne_iff_ne.mpr c15
                  obtain rfl := Option.some.inj H
                  go_wp2
                  go_ret
                  exact ⟨by first | rfl | (simp; done) | (simp [*]; done), by repeat (first | exact Drawn0.refl _ | apply Drawn0.step)⟩
def stringslite_HasPrefix.f (a0 : ByteArray) (a1 : ByteArray) : Option (Bool) := if (a0.size : Int) ≥ (a1.size : Int) then (if 0 ≤ (a1.size : Int) then (if (a1.size : Int) ≤ (a0.size : Int) then (some ((a0.extract 0 ((a1.size : Int) : Int).toNat).toList == a1.toList)) else (none)) else (none)) else (some false)
set_option maxHeartbeats 8000000 in
set_option maxRecDepth 100000 in
theorem stringslite_HasPrefix.calls (a0 : ByteArray) (a1 : ByteArray) (r : Bool) (w : World) (h : stringslite_HasPrefix.f a0 a1 = some r) :
    Calls Tryd.prog 45 #[.string a0, .string a1] w fun e w' => e = .returned (.bool r) ∧ Drawn0 w w' := by
  have H : (if (a0.size : Int) ≥ (a1.size : Int) then (if 0 ≤ (a1.size : Int) then (if (a1.size : Int) ≤ (a0.size : Int) then (some ((a0.extract 0 ((a1.size : Int) : Int).toNat).toList == a1.toList)) else (none)) else (none)) else (some false)) = some r := h
  clear h
  by_cases c3 : (a0.size : Int) ≥ (a1.size : Int)
  · rw [if_pos c3] at H
    have c3b0 : decide ((a1.size : Int) ≤ (a0.size : Int)) = true := decide_eq_true c3
    have c3b1 : decide (a1.size ≤ a0.size) = true := decide_eq_true (Int.ofNat_le.mp c3)
    clear c3
    by_cases c4 : 0 ≤ (a1.size : Int)
    · rw [if_pos c4] at H
      have c4b0 := eq_true c4
      have c4b1 : decide (0 ≤ (a1.size : Int)) = true := decide_eq_true c4
      clear c4
      by_cases c5 : (a1.size : Int) ≤ (a0.size : Int)
      · rw [if_pos c5] at H
        have c5b0 := eq_true c5
        have c5b1 : decide ((a1.size : Int) ≤ (a0.size : Int)) = true := decide_eq_true c5
        clear c5
        obtain rfl := Option.some.inj H
        go_enter Tryd.func45, Tryd.ntmps45
        go_wp2
        go_ret
        exact ⟨by first | rfl | (simp; done) | (simp [*]; done), by repeat (first | exact Drawn0.refl _ | apply Drawn0.step)⟩
      · rw [if_neg c5] at H
        exact absurd H (by simp)
    · rw [if_neg c4] at H
      exact absurd H (by simp)
  · rw [if_neg c3] at H
    have c3b0 : decide ((a1.size : Int) ≤ (a0.size : Int)) = false := decide_eq_false c3
    have c3b1 : decide (a1.size ≤ a0.size) = false := decide_eq_false (fun h => c3 (Int.ofNat_le.mpr h))
    clear c3
    obtain rfl := Option.some.inj H
    go_enter Tryd.func45, Tryd.ntmps45
    go_wp2
    go_ret
    exact ⟨by first | rfl | (simp; done) | (simp [*]; done), by repeat (first | exact Drawn0.refl _ | apply Drawn0.step)⟩
def strings_HasPrefix.f (a0 : ByteArray) (a1 : ByteArray) : Option (Bool) := (stringslite_HasPrefix.f a0 a1).bind fun t101 => (some t101)
set_option maxHeartbeats 8000000 in
set_option maxRecDepth 100000 in
theorem strings_HasPrefix.calls (a0 : ByteArray) (a1 : ByteArray) (r : Bool) (w : World) (h : strings_HasPrefix.f a0 a1 = some r) :
    Calls Tryd.prog 32 #[.string a0, .string a1] w fun e w' => e = .returned (.bool r) ∧ Drawn0 w w' := by
  have H : ((stringslite_HasPrefix.f a0 a1).bind fun t101 => (some t101)) = some r := h
  clear h
  replace H := Option.bind_eq_some_iff.mp H
  obtain ⟨t101, A30, H⟩ := H
  replace H : (some t101) = some r := H
  have A3 := Aside0.mk A30
  clear A30
  obtain rfl := Option.some.inj H
  go_enter Tryd.func32, Tryd.ntmps32
  go_wp2_with (first | ((with_reducible refine gate_callee (f := 45) rfl ?_); refine goesL_ (some 7) rfl rfl Tryd.func45 (by kernel_rfl) rfl #[.string a0, .string a1] rfl (by (try simp only [List.map_toArray, List.map_cons, List.map_nil]); first | done | rfl | (simp only [List.length_drop, List.length_take]; rfl)) ?_; (with_reducible refine (stringslite_HasPrefix.calls a0 a1 t101 _ A3.out).mono ?_); rintro e w' ⟨rfl, ⟨nd, rfl⟩⟩; refine ⟨_, rfl, ?_⟩))
  go_ret
  exact ⟨by first | rfl | (simp; done) | (simp [*]; done), by repeat (first | exact Drawn0.refl _ | apply Drawn0.step)⟩
def word_whole.f (a0 : ByteArray) (a1 : Int) : Option (Bool) := if 0 ≤ a1 then (if a1 ≤ (a0.size : Int) then ((strings_HasPrefix.f (a0.extract (a1 : Int).toNat a0.size) (⟨#[239, 191, 189]⟩ : ByteArray)).bind fun t102 => (some t102)) else (none)) else (none)
set_option maxHeartbeats 8000000 in
set_option maxRecDepth 100000 in
theorem word_whole.calls (a0 : ByteArray) (a1 : Int) (r : Bool) (w : World) (h : word_whole.f a0 a1 = some r) :
    Calls Tryd.prog 19 #[.string a0, .int .i64 a1] w fun e w' => e = .returned (.bool r) ∧ Drawn0 w w' := by
  have H : (if 0 ≤ a1 then (if a1 ≤ (a0.size : Int) then ((strings_HasPrefix.f (a0.extract (a1 : Int).toNat a0.size) (⟨#[239, 191, 189]⟩ : ByteArray)).bind fun t102 => (some t102)) else (none)) else (none)) = some r := h
  clear h
  by_cases c3 : 0 ≤ a1
  · rw [if_pos c3] at H
    have c3b0 := eq_true c3
    have c3b1 : decide (0 ≤ a1) = true := decide_eq_true c3
    clear c3
    by_cases c4 : a1 ≤ (a0.size : Int)
    · rw [if_pos c4] at H
      have c4b0 := eq_true c4
      have c4b1 : decide (a1 ≤ (a0.size : Int)) = true := decide_eq_true c4
      clear c4
      replace H := Option.bind_eq_some_iff.mp H
      obtain ⟨t102, A50, H⟩ := H
      replace H : (some t102) = some r := H
      have A5 := Aside0.mk A50
      clear A50
      obtain rfl := Option.some.inj H
      go_enter Tryd.func19, Tryd.ntmps19
      go_wp2_with (first | ((with_reducible refine gate_callee (f := 32) rfl ?_); refine goesL_ (some 8) rfl rfl Tryd.func32 (by kernel_rfl) rfl #[.string (a0.extract (a1 : Int).toNat a0.size), .string (⟨#[239, 191, 189]⟩ : ByteArray)] rfl (by (try simp only [List.map_toArray, List.map_cons, List.map_nil]); first | done | rfl | (simp only [List.length_drop, List.length_take]; rfl)) ?_; (with_reducible refine (strings_HasPrefix.calls (a0.extract (a1 : Int).toNat a0.size) (⟨#[239, 191, 189]⟩ : ByteArray) t102 _ A5.out).mono ?_); rintro e w' ⟨rfl, ⟨nd, rfl⟩⟩; refine ⟨_, rfl, ?_⟩))
      go_ret
      exact ⟨by first | rfl | (simp; done) | (simp [*]; done), by repeat (first | exact Drawn0.refl _ | apply Drawn0.step)⟩
    · rw [if_neg c4] at H
      exact absurd H (by simp)
  · rw [if_neg c3] at H
    exact absurd H (by simp)
def kindR (c : Int) : Int := if 48 ≤ c ∧ c ≤ 57 then 1 else if c = 95 ∨ 127 < c ∨ (65 ≤ c ∧ c ≤ 90) ∨ (97 ≤ c ∧ c ≤ 122) then 2 else if c = 32 ∨ c = 9 ∨ c = 10 ∨ c = 13 then 0 else if c < 32 ∨ c = 127 then 4 else 3
def wholeAt (s : ByteArray) (pos : Nat) : Bool := if 3 ≤ (s.extract pos s.size).size then ((s.extract pos s.size).extract 0 3).toList == (⟨#[239, 191, 189]⟩ : ByteArray).toList else false
def lastP (l : List S59) : S59 := rd_T59 l ((l.length : Int) - 1)
def spLoop (s : ByteArray) : Nat → List S59 → Int → Nat → Option (List S59 × Int × Int)
  | 0, _, _, _ => none
  | d + 1, l, last, pos =>
    if pos < s.size then
      (if kindR (Utf8.decode s pos).1 = 4 then some ([], (pos : Int), 21)
      else if ((Utf8.decode s pos).1 : Int) = 65533 ∧ wholeAt s pos = false then some ([], (pos : Int), 21)
      else if kindR (Utf8.decode s pos).1 = 0 then spLoop s d l 0 (pos + (Utf8.decode s pos).2)
      else if kindR (Utf8.decode s pos).1 = last ∧ kindR (Utf8.decode s pos).1 ≠ 3 then
        (if l.length = 0 then none
        else if (lastP l).f1.size + (Utf8.encode (Utf8.decode s pos).1).size ≤ 9223372036854775807 then
          spLoop s d (l.set (l.length - 1) ⟨(lastP l).f0, (lastP l).f1 ++ Utf8.encode (Utf8.decode s pos).1, (lastP l).f2⟩) (kindR (Utf8.decode s pos).1) (pos + (Utf8.decode s pos).2)
        else none)
      else spLoop s d (l ++ [⟨kindR (Utf8.decode s pos).1, Utf8.encode (Utf8.decode s pos).1, (pos : Int)⟩]) (kindR (Utf8.decode s pos).1) (pos + (Utf8.decode s pos).2))
    else some (l, 0, 0)
def word_Split.f (a0 : ByteArray) : Option ((List (S59)) × Int × Int) := if a0.size > 2048 then some ([], 0, 3) else spLoop a0 (a0.size + 1) [] 0 0
theorem kind_tab : ∀ c : Fin 128, word_kind.f 3 (c.val : Int) = some (kindR (c.val : Int)) := by decide +kernel
theorem word_kind.eq (c : Nat) : word_kind.f 3 (c : Int) = some (kindR c) := by
  by_cases h : c < 128
  · exact kind_tab ⟨c, h⟩
  · unfold word_kind.f kindR
    rw [if_pos (by omega)]
    simp only [word_kind.j0]
    rw [if_neg (by simp; omega), if_neg (by omega), if_pos (by omega), if_neg (by omega), if_pos (by omega)]
theorem kindR_range (c : Int) : 0 ≤ kindR c ∧ kindR c ≤ 4 := by
  unfold kindR
  repeat' split
  all_goals omega
theorem word_whole.eq (s : ByteArray) (pos : Nat) (h : pos ≤ s.size) : word_whole.f s (pos : Int) = some (wholeAt s pos) := by
  unfold word_whole.f
  rw [if_pos (by omega), if_pos (by omega), Int.toNat_natCast]
  unfold strings_HasPrefix.f stringslite_HasPrefix.f wholeAt
  have e : ((⟨#[239, 191, 189]⟩ : ByteArray).size : Int) = 3 := rfl
  simp only [e]
  by_cases h3 : 3 ≤ (s.extract pos s.size).size
  · rw [if_pos (by omega), if_pos (by omega), if_pos (by omega), if_pos h3]
    rfl
  · rw [if_neg (by omega), if_neg h3]
    rfl
theorem decode_width (s : ByteArray) (pos : Nat) (h : pos < s.size) : 1 ≤ (Utf8.decode s pos).2 := by
  by_cases ha : (s[pos]'h).toNat < 128
  · rw [decode_ascii s pos h ha]
    exact Nat.le_refl _
  · exact (decode_high s pos h (by omega)).2
theorem decode_end (s : ByteArray) (pos : Nat) (h : pos < s.size) : pos + (Utf8.decode s pos).2 ≤ s.size := by
  simp only [Utf8.decode]
  repeat' split
  all_goals simp_all
  all_goals omega
theorem split_iter {ok : Nat → Prop} {base k pos pos' : Nat} {s : ByteArray} {w : World} {v : Value} {l : List S59} (h : Kd.R k59 59 w base ok v l) (hok : ∀ j, ok j → j ≠ k) : Kd.R k59 59 (w.iterAt k s pos') base ok v l :=
  Kd.R_step h (fun j hj _ => Lib.iterAt_other w k j s pos' (hok j hj))
theorem split_grown {ok : Nat → Prop} {base k pos : Nat} {s : ByteArray} {w w1 : World} {v : Value} {l : List S59} (h : Kd.R k59 59 w base ok v l) (hok : ∀ j, ok j → j ≠ k) (hg : w.grownBy w1 v.ownBlock) (hi : w.heap[k]? = some (.stringIter s pos)) : w1.heap[k]? = some (.stringIter s pos) := by
  rw [hg.block k (Array.getElem?_eq_some_iff.1 hi).1 (fun e => hok k (h.1 k e.symm) rfl)]
  exact hi
theorem split_open {ok : Nat → Prop} {base : Nat} {w : World} {v : Value} {l : List S59} (h : Kd.R k59 59 w base ok v l) (hn : l.length ≠ 0) : ∃ g cap, v = .slice (some ⟨g, 0, none⟩) l.length cap ∧ base ≤ g := by
  obtain ⟨inner, ho⟩ := Kd.R_own h
  rcases ho.2 with ⟨_, h0⟩ | ⟨g, cap, cur, hv, hg, _⟩
  · exact absurd h0 hn
  · exact ⟨g, cap, hv, hg⟩
theorem split_free {ok : Nat → Prop} {base g cap : Nat} {w : World} {l : List S59} (h : Kd.R k59 59 w base ok (.slice (some ⟨g, 0, none⟩) l.length cap) l) (hn : l.length ≠ 0) (j : Nat) : w.frozen? ⟨g, j, none⟩ = false := by
  obtain ⟨inner, ho⟩ := Kd.R_own h
  rcases ho.2 with ⟨_, h0⟩ | ⟨g', cap', cur, hv, hg, hh, _⟩
  · exact absurd h0 hn
  · injection hv with h1 h2 h3
    injection h1 with h1
    injection h1 with h1
    subst h1
    simp [World.frozen?, hh]
theorem k59_mkM' (w : World) (base : Nat) (ok : Nat → Prop) (a : Int) (e : ByteArray) (b : Int) : k59.M w base ok ⟨a, e, b⟩ [.int .i64 a, .string e, .int .i64 b] := k59_mkM w base ok ⟨a, e, b⟩
def SplitInv (s : ByteArray) (r : List S59 × Int × Int) (w : World) (kq : Nat) (v5 : Value) (last : Int) (w' : World) : Prop :=
  ∃ (l : List S59) (pos : Nat), pos ≤ s.size ∧ l.length ≤ pos ∧ spLoop s kq l last pos = some r ∧ Kd.R k59 59 w' w.heap.size (fun k => k ≠ w.heap.size) v5 l ∧ w'.heap[w.heap.size]? = some (.stringIter s pos) ∧ Below w.heap.size w w'
set_option maxHeartbeats 2000000 in
set_option maxRecDepth 100000 in
theorem word_Split.calls (a0 : ByteArray) (r1 : List (S59)) (r2 : Int) (r3 : Int) (w : World) (h : word_Split.f a0 = some (r1, r2, r3)) :
    Calls Tryd.prog 11 #[.string a0] w fun e w' => ∃ v0_ : Value, e = .returned (.tuple #[v0_, .int .i64 r2, .int .i64 r3]) ∧ Kd.R k59 59 w' w.heap.size (fun _ => True) v0_ r1 ∧ Below w.heap.size w w' := by
  have hu34 := Tryd.underlying59
  unfold word_Split.f at h
  by_cases c2 : a0.size > 2048
  · rw [if_pos c2] at h
    have c2b0 : decide (2048 < (a0.size : Int)) = true := decide_eq_true (by omega)
    have c2b1 : decide (2048 < a0.size) = true := decide_eq_true (by omega)
    clear c2
    simp only [Option.some.injEq, Prod.mk.injEq] at h
    obtain ⟨rfl, rfl, rfl⟩ := h
    go_enter Tryd.func11, Tryd.ntmps11
    go_wp2
    go_ret3
    exact ⟨_, rfl, Kd.R_nil _ _ _ _ _, Below.refl _ _⟩
  · rw [if_neg c2] at h
    have c2b0 : decide (2048 < (a0.size : Int)) = false := decide_eq_false (by omega)
    have c2b1 : decide (2048 < a0.size) = false := decide_eq_false (by omega)
    have HS := Aside0.mk (show a0.size ≤ 2048 by omega)
    clear c2
    have H := Aside0.mk h
    clear h
    go_enter Tryd.func11, Tryd.ntmps11
    go_wp2
    go_loopg [5, 6] (a0.size + 1) (fun kq v5 v6 w' => ∃ last : Int, v6 = .int .i64 last ∧ Aside0 (SplitInv a0 (r1, r2, r3) w kq v5 last w'))
    case atStart =>
      refine ⟨0, rfl, ⟨[], 0, Nat.zero_le _, Nat.zero_le _, H.out, Kd.R_nil _ _ _ _ _, World.iter_heap w a0 0, (Below.refl _ w).alloc (Nat.le_refl _) _⟩⟩
    case round =>
      clear H c2b0 c2b1
      obtain ⟨last, rfl, HI⟩ := hrel
      obtain ⟨l, pos, hpos, hl, hA, hR, hit, hB⟩ := HI.out
      clear HI
      cases gk with
      | zero => exact absurd hA (by simp [spLoop])
      | succ k1 =>
        simp only [spLoop] at hA
        try clear HA
        by_cases hp : pos < a0.size
        · rw [if_pos hp] at hA
          have hnx : ∀ ty, (Instr.next (.pointer (some ⟨w.heap.size, 0, none⟩)) true ty).run Tryd.prog wr = _ := fun ty => Lib.run_next_any_at wr w.heap.size a0 pos ty hit hp
          have hwd := decode_width a0 pos hp
          have hdl := decode_le a0 pos
          have HR := Aside0.mk (split_iter (pos := pos) (pos' := pos + (Utf8.decode a0 pos).2) (s := a0) hR (fun _ hj => hj))
          have HIT := Aside0.mk (Lib.iterAt_heap wr w.heap.size a0 pos (pos + (Utf8.decode a0 pos).2) hit)
          have HB := Aside0.mk (Lib.below_iterAt hB (k := w.heap.size) (Nat.le_refl _) a0 (pos + (Utf8.decode a0 pos).2))
          have HP := Aside0.mk (show pos + (Utf8.decode a0 pos).2 ≤ a0.size from decode_end a0 pos hp)
          have HL := Aside0.mk hl
          have HW := Aside0.mk hwd
          have HPo := Aside0.mk hpos
          clear hR hit hB hl hwd hpos hdl
          generalize (Utf8.decode a0 pos).1 = c at hA hnx
          have HV := Aside0.mk hA
          clear hA
          have hk := Aside0.mk (word_kind.eq c)
          have hw := Aside0.mk (word_whole.eq a0 pos HPo.out)
          have hkr := Aside0.mk (kindR_range (c : Int))
          have HC := Aside0.mk (show kindR 65533 = 2 by decide)
          generalize hkd : kindR (c : Int) = kd at HV hk hkr
          have HKD := Aside0.mk hkd
          clear hkd
          by_cases h4 : kd = 4
          · have A := HV.out
            rw [if_pos h4] at A
            obtain ⟨h41, h42⟩ := Prod.mk.inj (Option.some.inj A)
            obtain ⟨h42, h43⟩ := Prod.mk.inj h42
            have b4 : (kd == 4) = true := by simpa using h4
            have N1 := Aside0.mk h41
            have N2 := Aside0.mk h42
            have N3 := Aside0.mk h43
            clear h4 A h41 h42 h43
            go_wp2_with (go_at_call 18; refine (word_kind.calls 3 _ _ _ hk.out).mono ?_; rintro e w' ⟨rfl, ⟨nd, rfl⟩⟩)
            go_ret3
            exact ⟨_, by rw [← N2.out, ← N3.out]; rfl, by rw [← N1.out]; exact Kd.R_nil _ _ _ _ _, by repeat (first | exact HB.out | apply pw_below_drewN)⟩
          · have b4 : (kd == 4) = false := by simpa using h4
            by_cases hcw : (c : Int) = 65533 ∧ wholeAt a0 pos = false
            · have A := HV.out
              rw [if_neg h4, if_pos hcw] at A
              obtain ⟨h41, h42⟩ := Prod.mk.inj (Option.some.inj A)
              obtain ⟨h42, h43⟩ := Prod.mk.inj h42
              have N1 := Aside0.mk h41
              have N2 := Aside0.mk h42
              have N3 := Aside0.mk h43
              obtain ⟨hc, hw0⟩ := hcw
              have bc : ((c : Int) == 65533) = true := by simpa using hc
              have hw1 := hw.out
              rw [hw0] at hw1
              have HW1 := Aside0.mk hw1
              clear hw1 hw0 hc h4 A h41 h42 h43
              go_wp2_with (first | (go_at_call 18; refine (word_kind.calls 3 _ _ _ hk.out).mono ?_; rintro e w' ⟨rfl, ⟨nd, rfl⟩⟩) | (go_at_call 19; refine (word_whole.calls _ _ _ _ HW1.out).mono ?_; rintro e w' ⟨rfl, ⟨nd2, rfl⟩⟩))
              go_ret3
              exact ⟨_, by rw [← N2.out, ← N3.out]; rfl, by rw [← N1.out]; exact Kd.R_nil _ _ _ _ _, by repeat (first | exact HB.out | apply pw_below_drewN)⟩
            · have A2 := HV.out
              rw [if_neg h4, if_neg hcw] at A2
              have HV2 := Aside0.mk A2
              clear HV h4 A2
              have hcase : ((c : Int) = 65533 ∧ wholeAt a0 pos = true) ∨ ¬ (c : Int) = 65533 := by
                by_cases h1 : (c : Int) = 65533
                · exact .inl ⟨h1, by cases hz : wholeAt a0 pos with | true => rfl | false => exact absurd ⟨h1, hz⟩ hcw⟩
                · exact .inr h1
              clear hcw
              by_cases h0 : kd = 0
              · subst h0
                have HV3 := Aside0.mk (show spLoop a0 k1 l 0 (pos + (Utf8.decode a0 pos).2) = some (r1, r2, r3) from by have A := HV2.out; rw [if_pos rfl] at A; exact A)
                clear HV2
                rcases hcase with ⟨hc, hw0⟩ | hc
                · have bc : ((c : Int) == 65533) = true := by simpa using hc
                  have hw1 := hw.out
                  rw [hw0] at hw1
                  have HW1 := Aside0.mk hw1
                  clear hw1 hw0 hc
                  go_wp2_with (first | (go_at_call 18; refine (word_kind.calls 3 _ _ _ hk.out).mono ?_; rintro e w' ⟨rfl, ⟨nd, rfl⟩⟩) | (go_at_call 19; refine (word_whole.calls _ _ _ _ HW1.out).mono ?_; rintro e w' ⟨rfl, ⟨nd2, rfl⟩⟩))
                  go_roundg k1
                  case measure => omega
                  case rel => exact ⟨0, rfl, ⟨l, _, HP.out, by have := HL.out; omega, HV3.out, by repeat (first | exact HR.out | apply Kd.R_drewN), HIT.out, by repeat (first | exact HB.out | apply pw_below_drewN)⟩⟩
                · have bc : ((c : Int) == 65533) = false := by simpa using hc
                  clear hc
                  go_wp2_with (first | (go_at_call 18; refine (word_kind.calls 3 _ _ _ hk.out).mono ?_; rintro e w' ⟨rfl, ⟨nd, rfl⟩⟩))
                  go_roundg k1
                  case measure => omega
                  case rel => exact ⟨0, rfl, ⟨l, _, HP.out, by have := HL.out; omega, HV3.out, by repeat (first | exact HR.out | apply Kd.R_drewN), HIT.out, by repeat (first | exact HB.out | apply pw_below_drewN)⟩⟩
              · have b0 : (kd == 0) = false := by simpa using h0
                have A3 := HV2.out
                rw [if_neg h0] at A3
                clear HV2 h0
                by_cases hsm : kd = last ∧ kd ≠ 3
                · rw [if_pos hsm] at A3
                  by_cases hl0 : l.length = 0
                  · rw [if_pos hl0] at A3; cases A3
                  · rw [if_neg hl0] at A3
                    by_cases hbig : (lastP l).f1.size + (Utf8.encode c).size ≤ 9223372036854775807
                    · rw [if_pos hbig] at A3
                      obtain ⟨rfl, h3⟩ := hsm
                      have b3 : (kd == 3) = false := by simpa using h3
                      have b3n : (kd != 3) = true := by simpa using h3
                      obtain ⟨g, cap, hv, hg⟩ := split_open HR.out hl0
                      obtain ⟨j, hj⟩ : ∃ j, l.length = j + 1 := ⟨l.length - 1, by omega⟩
                      subst hv
                      obtain ⟨ad, ead, hx0, hx1, hx2⟩ := at_T59 (Kd.R_reads' HR.out).2.2 (j : Int) (by omega) (by omega)
                      have hfr := split_free HR.out hl0 (j * 3 + 1)
                      have hlp : lastP l = rd_T59 l (j : Int) := by unfold lastP; congr 1; omega
                      rw [hlp] at hbig A3
                      injection ead with ead
                      subst ead
                      rw [Int.toNat_natCast, Go.Proofs.YtnjoncbgekonbaaDoorW.PrintWords.add_plain] at hx0 hx1 hx2
                      have HG := Aside0.mk hg
                      have hRj := HR.out
                      rw [hj] at hRj
                      have HRJ := Aside0.mk hRj
                      have hjl : l.length - 1 = j := by omega
                      rw [hjl] at A3
                      clear hRj HR hjl
                      have HX0 := Aside0.mk hx0
                      have HX2 := Aside0.mk hx2
                      have HV3 := Aside0.mk A3
                      have HJ := Aside0.mk hj
                      have hj8 : j ≤ 2048 := by have h1 := HL.out; have h2 := HPo.out; have h3 := HS.out; omega
                      rw [hj]
                      clear A3 h3 hl0 hlp hx0 hx2 hg hj
                      have hcat : ∀ W, (Op.stringOp .add (rd_T59 l (j : Int)).f1 (Utf8.encode c)).run Tryd.prog W = .ok (.string ((rd_T59 l (j : Int)).f1 ++ Utf8.encode c)) W := fun W => run_string_add_sum W _ _ hbig
                      clear hbig
                      generalize rd_T59 l (j : Int) = q at hcat hx1 HV3 HX0 HX2
                      rcases hcase with ⟨hc, hw0⟩ | hc
                      · have bc : ((c : Int) == 65533) = true := by simpa using hc
                        have hw1 := hw.out
                        rw [hw0] at hw1
                        have HW1 := Aside0.mk hw1
                        clear hw1 hw0 hc
                        go_wp2_with (first | (go_at_call 18; refine (word_kind.calls 3 _ _ _ hk.out).mono ?_; rintro e w' ⟨rfl, ⟨nd, rfl⟩⟩) | (go_at_call 19; refine (word_whole.calls _ _ _ _ HW1.out).mono ?_; rintro e w' ⟨rfl, ⟨nd2, rfl⟩⟩))
                        have hcs : ∀ jj u, ([.int .i64 q.f0, .string q.f1, .int .i64 q.f2] : List Value)[jj]? = some u → (World.drewN (wr.iterAt w.heap.size a0 (pos + (Utf8.decode a0 pos).2)) (nd + nd2)).cell? ⟨g, ((j : Nat) : Int).toNat * k59.sz + jj, none⟩ = some u := by
                          intro jj u hu
                          rw [Int.toNat_natCast]
                          rcases jj with _ | _ | _ | jj
                          · obtain rfl := Option.some.inj hu; exact HX0.out
                          · obtain rfl := Option.some.inj hu; exact hx1
                          · obtain rfl := Option.some.inj hu; exact HX2.out
                          · cases hu
                        obtain ⟨hrow, hgr⟩ := Kd.R_seg (okp := fun _ => False) (seg := [.string (q.f1 ++ Utf8.encode c)]) (j := 1) (x' := (⟨q.f0, q.f1 ++ Utf8.encode c, q.f2⟩ : S59)) (c := [.int .i64 q.f0, .string q.f1, .int .i64 q.f2]) (Kd.R_drewN HRJ.out (nd + nd2)) ((j : Nat) : Int) (Int.natCast_nonneg _) (by omega) rfl hcs (by show 1 + 1 ≤ 3; decide) (k59_mkM' _ _ _ q.f0 (q.f1 ++ Utf8.encode c) q.f2) (fun _ hk => hk.elim)
                        rw [Int.toNat_natCast] at hrow hgr
                        have hrow2 := Aside0.mk hrow
                        have hit3 := Aside0.mk (split_grown (s := a0) (pos := pos + (Utf8.decode a0 pos).2) (k := w.heap.size) (Kd.R_drewN HRJ.out (nd + nd2)) (fun _ hj => hj) hgr HIT.out)
                        have hbel := Aside0.mk (Below.setCell (p := ⟨g, j * 3 + 1, none⟩) (pw_below_drewN HB.out (n := nd + nd2)) HG.out (.string (q.f1 ++ Utf8.encode c)))
                        go_roundg k1
                        case measure => omega
                        case rel => exact ⟨kd, rfl, ⟨_, _, HP.out, by rw [List.length_set]; have h1 := HL.out; have h2 := HW.out; omega, HV3.out, hrow2.out, hit3.out, hbel.out⟩⟩
                      · have bc : ((c : Int) == 65533) = false := by simpa using hc
                        clear hc
                        go_wp2_with (first | (go_at_call 18; refine (word_kind.calls 3 _ _ _ hk.out).mono ?_; rintro e w' ⟨rfl, ⟨nd, rfl⟩⟩))
                        have hcs : ∀ jj u, ([.int .i64 q.f0, .string q.f1, .int .i64 q.f2] : List Value)[jj]? = some u → (World.drewN (wr.iterAt w.heap.size a0 (pos + (Utf8.decode a0 pos).2)) nd).cell? ⟨g, ((j : Nat) : Int).toNat * k59.sz + jj, none⟩ = some u := by
                          intro jj u hu
                          rw [Int.toNat_natCast]
                          rcases jj with _ | _ | _ | jj
                          · obtain rfl := Option.some.inj hu; exact HX0.out
                          · obtain rfl := Option.some.inj hu; exact hx1
                          · obtain rfl := Option.some.inj hu; exact HX2.out
                          · cases hu
                        obtain ⟨hrow, hgr⟩ := Kd.R_seg (okp := fun _ => False) (seg := [.string (q.f1 ++ Utf8.encode c)]) (j := 1) (x' := (⟨q.f0, q.f1 ++ Utf8.encode c, q.f2⟩ : S59)) (c := [.int .i64 q.f0, .string q.f1, .int .i64 q.f2]) (Kd.R_drewN HRJ.out nd) ((j : Nat) : Int) (Int.natCast_nonneg _) (by omega) rfl hcs (by show 1 + 1 ≤ 3; decide) (k59_mkM' _ _ _ q.f0 (q.f1 ++ Utf8.encode c) q.f2) (fun _ hk => hk.elim)
                        rw [Int.toNat_natCast] at hrow hgr
                        have hrow2 := Aside0.mk hrow
                        have hit3 := Aside0.mk (split_grown (s := a0) (pos := pos + (Utf8.decode a0 pos).2) (k := w.heap.size) (Kd.R_drewN HRJ.out nd) (fun _ hj => hj) hgr HIT.out)
                        have hbel := Aside0.mk (Below.setCell (p := ⟨g, j * 3 + 1, none⟩) (pw_below_drewN HB.out (n := nd)) HG.out (.string (q.f1 ++ Utf8.encode c)))
                        go_roundg k1
                        case measure => omega
                        case rel => exact ⟨kd, rfl, ⟨_, _, HP.out, by rw [List.length_set]; have h1 := HL.out; have h2 := HW.out; omega, HV3.out, hrow2.out, hit3.out, hbel.out⟩⟩
                    · rw [if_neg hbig] at A3; cases A3
                · rw [if_neg hsm] at A3
                  have HV3 := Aside0.mk A3
                  clear A3
                  have hsplit : (kd == last) = false ∨ (kd = 3 ∧ last = 3) := by
                    by_cases h1 : kd = last
                    · have h3 : kd = 3 := by
                        by_cases h : kd = 3
                        · exact h
                        · exact absurd ⟨h1, h⟩ hsm
                      exact .inr ⟨h3, by rw [← h1]; exact h3⟩
                    · exact .inl (by simpa using h1)
                  clear hsm
                  rcases hsplit with bl | ⟨rfl, rfl⟩
                  · rcases hcase with ⟨hc, hw0⟩ | hc
                    · have bc : ((c : Int) == 65533) = true := by simpa using hc
                      have hw1 := hw.out
                      rw [hw0] at hw1
                      have HW1 := Aside0.mk hw1
                      clear hw1 hw0 hc
                      go_wp2_with (first | (go_at_call 18; refine (word_kind.calls 3 _ _ _ hk.out).mono ?_; rintro e w' ⟨rfl, ⟨nd, rfl⟩⟩) | (go_at_call 19; refine (word_whole.calls _ _ _ _ HW1.out).mono ?_; rintro e w' ⟨rfl, ⟨nd2, rfl⟩⟩) | ((with_reducible refine gate_builtin (b := .append) (xs := #[.tmp 37, .tmp 42]) rfl ?_); at_builtin; refine Kd.R_append k59 (w0 := w) w.heap.size rfl (.tmp 37) (.tmp 42) 37 59 (.agg #[(.int .i64 0), (.string ⟨#[]⟩), (.int .i64 0)]) 32 rfl Tryd.underlying37 info59 rfl (by decide) (by omega) u5 l (⟨kd, Utf8.encode c, (pos : Int)⟩ : S59) [.int .i64 kd, .string (Utf8.encode c), .int .i64 pos] (fun k => k ≠ w.heap.size) (fun _ => False) rfl rfl ?aP (fun _ hk => hk.elim) ?aF ?aO ?aB ?aS ?aL ?_; (case aP => exact k59_mkM' _ _ _ kd (Utf8.encode c) (pos : Int)); (case aF => exact fun k hk => by have h1 := (Array.getElem?_eq_some_iff.1 HIT.out).1; have h2 : (wr.iterAt w.heap.size a0 (pos + (Utf8.decode a0 pos).2)).heap.size ≤ k := hk; omega); (case aO => exact (by repeat (first | exact HR.out | apply Kd.R_drewN))); (case aB => exact (by repeat (first | exact HB.out | apply pw_below_drewN))); (case aS => exact (by repeat (first | exact HB.out | apply pw_below_drewN) : Below w.heap.size w _).size); (case aL => have h1 := HL.out; have h2 := HPo.out; have h3 := HS.out; omega); intro v1 w1 ho hb hg hat; have hi1 := Aside0.mk (split_grown (s := a0) (pos := pos + (Utf8.decode a0 pos).2) (k := w.heap.size) (by repeat (first | exact HR.out | apply Kd.R_drewN)) (fun _ hj => hj) hg HIT.out); have ho1 := Aside0.mk ho; have hb1 := Aside0.mk hb; clear ho hb hg hat))
                      go_roundg k1
                      case measure => omega
                      case rel => exact ⟨_, rfl, ⟨_, _, HP.out, by rw [List.length_append]; have h1 := HL.out; have h2 := HW.out; simp; omega, HV3.out, ho1.out, hi1.out, hb1.out⟩⟩
                    · have bc : ((c : Int) == 65533) = false := by simpa using hc
                      clear hc
                      go_wp2_with (first | (go_at_call 18; refine (word_kind.calls 3 _ _ _ hk.out).mono ?_; rintro e w' ⟨rfl, ⟨nd, rfl⟩⟩) | ((with_reducible refine gate_builtin (b := .append) (xs := #[.tmp 37, .tmp 42]) rfl ?_); at_builtin; refine Kd.R_append k59 (w0 := w) w.heap.size rfl (.tmp 37) (.tmp 42) 37 59 (.agg #[(.int .i64 0), (.string ⟨#[]⟩), (.int .i64 0)]) 32 rfl Tryd.underlying37 info59 rfl (by decide) (by omega) u5 l (⟨kd, Utf8.encode c, (pos : Int)⟩ : S59) [.int .i64 kd, .string (Utf8.encode c), .int .i64 pos] (fun k => k ≠ w.heap.size) (fun _ => False) rfl rfl ?aP (fun _ hk => hk.elim) ?aF ?aO ?aB ?aS ?aL ?_; (case aP => exact k59_mkM' _ _ _ kd (Utf8.encode c) (pos : Int)); (case aF => exact fun k hk => by have h1 := (Array.getElem?_eq_some_iff.1 HIT.out).1; have h2 : (wr.iterAt w.heap.size a0 (pos + (Utf8.decode a0 pos).2)).heap.size ≤ k := hk; omega); (case aO => exact (by repeat (first | exact HR.out | apply Kd.R_drewN))); (case aB => exact (by repeat (first | exact HB.out | apply pw_below_drewN))); (case aS => exact (by repeat (first | exact HB.out | apply pw_below_drewN) : Below w.heap.size w _).size); (case aL => have h1 := HL.out; have h2 := HPo.out; have h3 := HS.out; omega); intro v1 w1 ho hb hg hat; have hi1 := Aside0.mk (split_grown (s := a0) (pos := pos + (Utf8.decode a0 pos).2) (k := w.heap.size) (by repeat (first | exact HR.out | apply Kd.R_drewN)) (fun _ hj => hj) hg HIT.out); have ho1 := Aside0.mk ho; have hb1 := Aside0.mk hb; clear ho hb hg hat))
                      go_roundg k1
                      case measure => omega
                      case rel => exact ⟨_, rfl, ⟨_, _, HP.out, by rw [List.length_append]; have h1 := HL.out; have h2 := HW.out; simp; omega, HV3.out, ho1.out, hi1.out, hb1.out⟩⟩
                  · rcases hcase with ⟨hc, hw0⟩ | hc
                    · have bc : ((c : Int) == 65533) = true := by simpa using hc
                      have hw1 := hw.out
                      rw [hw0] at hw1
                      have HW1 := Aside0.mk hw1
                      clear hw1 hw0 hc
                      go_wp2_with (first | (go_at_call 18; refine (word_kind.calls 3 _ _ _ hk.out).mono ?_; rintro e w' ⟨rfl, ⟨nd, rfl⟩⟩) | (go_at_call 19; refine (word_whole.calls _ _ _ _ HW1.out).mono ?_; rintro e w' ⟨rfl, ⟨nd2, rfl⟩⟩) | ((with_reducible refine gate_builtin (b := .append) (xs := #[.tmp 37, .tmp 42]) rfl ?_); at_builtin; refine Kd.R_append k59 (w0 := w) w.heap.size rfl (.tmp 37) (.tmp 42) 37 59 (.agg #[(.int .i64 0), (.string ⟨#[]⟩), (.int .i64 0)]) 32 rfl Tryd.underlying37 info59 rfl (by decide) (by omega) u5 l (⟨3, Utf8.encode c, (pos : Int)⟩ : S59) [.int .i64 3, .string (Utf8.encode c), .int .i64 pos] (fun k => k ≠ w.heap.size) (fun _ => False) rfl rfl ?aP (fun _ hk => hk.elim) ?aF ?aO ?aB ?aS ?aL ?_; (case aP => exact k59_mkM' _ _ _ 3 (Utf8.encode c) (pos : Int)); (case aF => exact fun k hk => by have h1 := (Array.getElem?_eq_some_iff.1 HIT.out).1; have h2 : (wr.iterAt w.heap.size a0 (pos + (Utf8.decode a0 pos).2)).heap.size ≤ k := hk; omega); (case aO => exact (by repeat (first | exact HR.out | apply Kd.R_drewN))); (case aB => exact (by repeat (first | exact HB.out | apply pw_below_drewN))); (case aS => exact (by repeat (first | exact HB.out | apply pw_below_drewN) : Below w.heap.size w _).size); (case aL => have h1 := HL.out; have h2 := HPo.out; have h3 := HS.out; omega); intro v1 w1 ho hb hg hat; have hi1 := Aside0.mk (split_grown (s := a0) (pos := pos + (Utf8.decode a0 pos).2) (k := w.heap.size) (by repeat (first | exact HR.out | apply Kd.R_drewN)) (fun _ hj => hj) hg HIT.out); have ho1 := Aside0.mk ho; have hb1 := Aside0.mk hb; clear ho hb hg hat))
                      go_roundg k1
                      case measure => omega
                      case rel => exact ⟨_, rfl, ⟨_, _, HP.out, by rw [List.length_append]; have h1 := HL.out; have h2 := HW.out; simp; omega, HV3.out, ho1.out, hi1.out, hb1.out⟩⟩
                    · have bc : ((c : Int) == 65533) = false := by simpa using hc
                      clear hc
                      go_wp2_with (first | (go_at_call 18; refine (word_kind.calls 3 _ _ _ hk.out).mono ?_; rintro e w' ⟨rfl, ⟨nd, rfl⟩⟩) | ((with_reducible refine gate_builtin (b := .append) (xs := #[.tmp 37, .tmp 42]) rfl ?_); at_builtin; refine Kd.R_append k59 (w0 := w) w.heap.size rfl (.tmp 37) (.tmp 42) 37 59 (.agg #[(.int .i64 0), (.string ⟨#[]⟩), (.int .i64 0)]) 32 rfl Tryd.underlying37 info59 rfl (by decide) (by omega) u5 l (⟨3, Utf8.encode c, (pos : Int)⟩ : S59) [.int .i64 3, .string (Utf8.encode c), .int .i64 pos] (fun k => k ≠ w.heap.size) (fun _ => False) rfl rfl ?aP (fun _ hk => hk.elim) ?aF ?aO ?aB ?aS ?aL ?_; (case aP => exact k59_mkM' _ _ _ 3 (Utf8.encode c) (pos : Int)); (case aF => exact fun k hk => by have h1 := (Array.getElem?_eq_some_iff.1 HIT.out).1; have h2 : (wr.iterAt w.heap.size a0 (pos + (Utf8.decode a0 pos).2)).heap.size ≤ k := hk; omega); (case aO => exact (by repeat (first | exact HR.out | apply Kd.R_drewN))); (case aB => exact (by repeat (first | exact HB.out | apply pw_below_drewN))); (case aS => exact (by repeat (first | exact HB.out | apply pw_below_drewN) : Below w.heap.size w _).size); (case aL => have h1 := HL.out; have h2 := HPo.out; have h3 := HS.out; omega); intro v1 w1 ho hb hg hat; have hi1 := Aside0.mk (split_grown (s := a0) (pos := pos + (Utf8.decode a0 pos).2) (k := w.heap.size) (by repeat (first | exact HR.out | apply Kd.R_drewN)) (fun _ hj => hj) hg HIT.out); have ho1 := Aside0.mk ho; have hb1 := Aside0.mk hb; clear ho hb hg hat))
                      go_roundg k1
                      case measure => omega
                      case rel => exact ⟨_, rfl, ⟨_, _, HP.out, by rw [List.length_append]; have h1 := HL.out; have h2 := HW.out; simp; omega, HV3.out, ho1.out, hi1.out, hb1.out⟩⟩
        · rw [if_neg hp] at hA
          have hnx : ∀ ty, (Instr.next (.pointer (some ⟨w.heap.size, 0, none⟩)) true ty).run Tryd.prog wr = _ := fun ty => Lib.run_next_end_at wr w.heap.size a0 pos ty hit hp
          have HR := Aside0.mk hR
          have HB := Aside0.mk hB
          obtain ⟨h41, h42⟩ := Prod.mk.inj (Option.some.inj hA)
          obtain ⟨h42, h43⟩ := Prod.mk.inj h42
          have N1 := Aside0.mk h41
          have N2 := Aside0.mk h42
          have N3 := Aside0.mk h43
          clear hA hR hB hit h41 h42 h43 hl hpos hp
          go_wp2
          go_ret3
          exact ⟨_, by rw [← N2.out, ← N3.out]; rfl, by rw [← N1.out]; exact Kd.R_mono HR.out (fun _ _ => trivial), HB.out⟩
def bytealg_Cutover.f (a0 : Int) : Option (Int) := some (wrap64 (Int.tdiv (wrap64 (a0 + 16)) 8))
mutual
def bytealg_hashStr_string.l0 : Nat → ByteArray → Int → Int → Option (Int × Int)
  | 0, _, _, _ => none
  | k + 1, x0, x4, x5 => if x5 < (x0.size : Int) then (if 0 ≤ x5 then (bytealg_hashStr_string.l0 k x0 ((((x4 * 16777619) % 4294967296) + ((bt x0 x5) % 4294967296)) % 4294967296) (wrap64 (x5 + 1))) else (none)) else (bytealg_hashStr_string.l1 k x4 1 16777619 (x0.size : Int))
def bytealg_hashStr_string.l1 : Nat → Int → Int → Int → Int → Option (Int × Int)
  | 0, _, _, _, _ => none
  | k + 1, x4, x6, x7, x8 => if x8 > 0 then (if (Go.bits .and .i64 x8 1) = 0 then (bytealg_hashStr_string.l1 k x4 x6 ((x7 * x7) % 4294967296) (x8 / 2)) else (bytealg_hashStr_string.l1 k x4 ((x6 * x7) % 4294967296) ((x7 * x7) % 4294967296) (x8 / 2))) else (some (x4, x6))
end
def bytealg_hashStr_string.f (k : Nat) (a0 : ByteArray) : Option (Int × Int) := bytealg_hashStr_string.l0 k a0 0 0
theorem bytealg_hashStr_string.mono_l : ∀ k, (∀ y0 y1 y2, LeO (bytealg_hashStr_string.l0 k y0 y1 y2) (bytealg_hashStr_string.l0 (k + 1) y0 y1 y2)) ∧ (∀ y0 y1 y2 y3, LeO (bytealg_hashStr_string.l1 k y0 y1 y2 y3) (bytealg_hashStr_string.l1 (k + 1) y0 y1 y2 y3))
  | 0 => ⟨fun _ _ _ r h => by simp [bytealg_hashStr_string.l0] at h, fun _ _ _ _ r h => by simp [bytealg_hashStr_string.l1] at h⟩
  | k + 1 => by
    obtain ⟨ih0, ih1⟩ := bytealg_hashStr_string.mono_l k
    refine ⟨?_, ?_⟩
    · intro y0 y1 y2
      unfold bytealg_hashStr_string.l0
      repeat' first
      | (with_reducible exact ih0 _ _ _)
      | (with_reducible exact ih1 _ _ _ _)
      | (with_reducible exact LeO.refl _)
      | (with_reducible exact LeO.none _)
      | (with_reducible refine LeO.ite ?_ ?_)
      | (with_reducible refine LeO.bind ?_ (fun _ => ?_))
      | exact ih0 _ _ _
      | exact ih1 _ _ _ _
      | exact LeO.none _
      | refine LeO.ite ?_ ?_
      | refine LeO.bind ?_ (fun _ => ?_)
    · intro y0 y1 y2 y3
      unfold bytealg_hashStr_string.l1
      repeat' first
      | (with_reducible exact ih0 _ _ _)
      | (with_reducible exact ih1 _ _ _ _)
      | (with_reducible exact LeO.refl _)
      | (with_reducible exact LeO.none _)
      | (with_reducible refine LeO.ite ?_ ?_)
      | (with_reducible refine LeO.bind ?_ (fun _ => ?_))
      | exact ih0 _ _ _
      | exact ih1 _ _ _ _
      | exact LeO.none _
      | refine LeO.ite ?_ ?_
      | refine LeO.bind ?_ (fun _ => ?_)
theorem bytealg_hashStr_string.mono : ∀ a0 k, LeO (bytealg_hashStr_string.f k a0) (bytealg_hashStr_string.f (k + 1) a0) := by
  intro a0 k
  obtain ⟨ih0, ih1⟩ := bytealg_hashStr_string.mono_l k
  unfold bytealg_hashStr_string.f
  repeat' first
      | (with_reducible exact ih0 _ _ _)
      | (with_reducible exact ih1 _ _ _ _)
      | (with_reducible exact LeO.refl _)
      | (with_reducible exact LeO.none _)
      | (with_reducible refine LeO.ite ?_ ?_)
      | (with_reducible refine LeO.bind ?_ (fun _ => ?_))
      | exact ih0 _ _ _
      | exact ih1 _ _ _ _
      | exact LeO.none _
      | refine LeO.ite ?_ ?_
      | refine LeO.bind ?_ (fun _ => ?_)
end Go.Proofs.YtnjoncbgekonbaaDoor.PExpr
end
section
namespace Go.Proofs.YtnjoncbgekonbaaDoor.PExpr
open Go.RowKit Go.Proofs.YtnjoncbgekonbaaDoorW.PrintWords Go.Proofs.YtnjoncbgekonbaaDoorW.PrintLast Go.Proofs.YtnjoncbgekonbaaDoorW.PrintMore
attribute [local go_sem] max2_int min2_int max_two min_two max_three min_three max_four min_four   -- for this text's walks alone
set_option linter.unusedVariables false
set_option linter.unusedSimpArgs false
def expr_plain.f (a0_0 : Int) (a0_1 : ByteArray) (a0_2 : Int) : Option (Bool) := some (a0_0 != 3)
def slices_Index_string_string.l0 : Nat → List ByteArray → ByteArray → Int → Int → Option (Int)
  | 0, _, _, _, _ => none
  | k + 1, x0, x1, x7, x8 => if x8 < x7 then (if 0 ≤ x8 then (if x8 < (x0.length : Int) then (if x1.toList = (rdOf ByteArray.empty x0 x8).toList then (some x8) else (slices_Index_string_string.l0 k x0 x1 x7 (wrap64 (x8 + 1)))) else (none)) else (none)) else (some (-1))
def slices_Index_string_string.f (k : Nat) (l0 : List ByteArray) (a1 : ByteArray) : Option (Int) := slices_Index_string_string.l0 k l0 a1 (l0.length : Int) 0
theorem slices_Index_string_string.mono_l : ∀ k, (∀ y0 y1 y2 y3, LeO (slices_Index_string_string.l0 k y0 y1 y2 y3) (slices_Index_string_string.l0 (k + 1) y0 y1 y2 y3))
  | 0 => fun _ _ _ _ r h => by simp [slices_Index_string_string.l0] at h
  | k + 1 => by
    have ih0 := slices_Index_string_string.mono_l k
    · intro y0 y1 y2 y3
      unfold slices_Index_string_string.l0
      repeat' first
      | (with_reducible exact ih0 _ _ _ _)
      | (with_reducible exact LeO.refl _)
      | (with_reducible exact LeO.none _)
      | (with_reducible refine LeO.ite ?_ ?_)
      | (with_reducible refine LeO.bind ?_ (fun _ => ?_))
      | exact ih0 _ _ _ _
      | exact LeO.none _
      | refine LeO.ite ?_ ?_
      | refine LeO.bind ?_ (fun _ => ?_)
theorem slices_Index_string_string.mono : ∀ a0 a1 k, LeO (slices_Index_string_string.f k a0 a1) (slices_Index_string_string.f (k + 1) a0 a1) := by
  intro a0 a1 k
  have ih0 := slices_Index_string_string.mono_l k
  unfold slices_Index_string_string.f
  repeat' first
      | (with_reducible exact ih0 _ _ _ _)
      | (with_reducible exact LeO.refl _)
      | (with_reducible exact LeO.none _)
      | (with_reducible refine LeO.ite ?_ ?_)
      | (with_reducible refine LeO.bind ?_ (fun _ => ?_))
      | exact ih0 _ _ _ _
      | exact LeO.none _
      | refine LeO.ite ?_ ?_
      | refine LeO.bind ?_ (fun _ => ?_)
set_option maxHeartbeats 8000000 in
set_option maxRecDepth 100000 in
theorem slices_Index_string_string.calls (k : Nat) (A0 : Option Addr) (c0 : Nat) (l0 : List ByteArray) (a1 : ByteArray) (r : Int) (w : World) (hr0 : Kd.C Kd.string w A0 l0.length l0) (hc0 : l0.length ≤ c0) (h : slices_Index_string_string.f k l0 a1 = some r) :
    Calls Tryd.prog 40 #[.slice A0 l0.length c0, .string a1] w fun e w' => e = .returned (.int .i64 r) ∧ Drawn0 w w' := by
  have HR0 := Aside0.mk hr0
  have HC0 := Aside0.mk hc0
  clear hr0 hc0
  have H : (slices_Index_string_string.l0 k l0 a1 (l0.length : Int) 0) = some r := h
  clear h
  have H' := Aside0.mk H
  clear H
  go_enter Tryd.func40, Tryd.ntmps40
  go_wp2
  go_loopg [8] k (fun kq v8 w' => ∃ (x8_1 : Int), v8 = .int .i64 x8_1 ∧ Aside0 (slices_Index_string_string.l0 kq l0 a1 (l0.length : Int) x8_1 = some r) ∧ Aside0 (kq ≤ k) ∧ Drawn0 w w')
  case atStart => exact ⟨(0), (by first | rfl | (simp; done) | (simp [*]; done)), H', ⟨Nat.le_refl _⟩, by repeat (first | exact Drawn0.refl _ | apply Drawn0.step)⟩
  case round =>
    clear H'
    try clear p2
    obtain ⟨x8_1, rfl, HA, HK1, ⟨m1, rfl⟩⟩ := hrel
    cases gk with
    | zero => exact absurd HA.out (by simp [slices_Index_string_string.l0])
    | succ k1 =>
      have H := HA.out
      clear HA
      simp only [slices_Index_string_string.l0] at H
      by_cases c3 : x8_1 < (l0.length : Int)
      · rw [if_pos c3] at H
        have c3b0 : decide (x8_1 < (l0.length : Int)) = true := decide_eq_true c3
        clear c3
        by_cases c4 : 0 ≤ x8_1
        · rw [if_pos c4] at H
          have c4b0 : decide (0 ≤ x8_1) = true := decide_eq_true c4
          clear c4
          by_cases c5 : x8_1 < (l0.length : Int)
          · rw [if_pos c5] at H
            have c5b0 : decide (x8_1 < (l0.length : Int)) = true := decide_eq_true c5
            clear c5
            by_cases c6 : a1.toList = (rdOf ByteArray.empty l0 x8_1).toList
            · rw [if_pos c6] at H
              have c6b0 : (a1.toList == (rdOf ByteArray.empty l0 x8_1).toList) = true := beq_iff_eq.mpr c6
              have c6b1 : (a1.toList != (rdOf ByteArray.empty l0 x8_1).toList) = false := bne_eq_false_iff_eq.mpr c6
              clear c6
              obtain rfl := Option.some.inj H
              have p106 : 0 ≤ (x8_1 : Int) := of_decide_eq_true (by first | (with_reducible assumption) | assumption)
              have q106 : x8_1 < (l0.length : Int) := of_decide_eq_true (by first | (with_reducible assumption) | assumption)
              obtain ⟨ad106, e106, hx106_0⟩ := Kd.at_string HR0.out x8_1 p106 q106
              cases e106
              replace p106 := eq_true p106
              replace q106 := eq_true q106
              go_wp2
              go_ret
              exact ⟨by first | rfl | (simp; done) | (simp [*]; done), by repeat (first | exact Drawn0.refl _ | apply Drawn0.step)⟩
            · rw [if_neg c6] at H
              have c6b0 : (a1.toList == (rdOf ByteArray.empty l0 x8_1).toList) = false := beq_eq_false_iff_ne.mpr c6
              have c6b1 : (a1.toList != (rdOf ByteArray.empty l0 x8_1).toList) = true := bne_iff_ne.mpr c6
              have H' := Aside0.mk H
              clear H
              have p106 : 0 ≤ (x8_1 : Int) := of_decide_eq_true (by first | (with_reducible assumption) | assumption)
              have q106 : x8_1 < (l0.length : Int) := of_decide_eq_true (by first | (with_reducible assumption) | assumption)
              obtain ⟨ad106, e106, hx106_0⟩ := Kd.at_string HR0.out x8_1 p106 q106
              cases e106
              replace p106 := eq_true p106
              replace q106 := eq_true q106
              go_wp2
              go_roundg k1
              case measure => have := HK1.out; omega
              case rel => exact ⟨(wrap64 (x8_1 + 1)), (by first | rfl | (simp; done) | (simp [*]; done)), H', ⟨by have := HK1.out; omega⟩, by repeat (first | exact Drawn0.refl _ | apply Drawn0.step)⟩
          · rw [if_neg c5] at H
            exact absurd H (by simp)
        · rw [if_neg c4] at H
          exact absurd H (by simp)
      · rw [if_neg c3] at H
        have c3b0 : decide (x8_1 < (l0.length : Int)) = false := decide_eq_false c3
        clear c3
        obtain rfl := Option.some.inj H
        go_wp2
        go_ret
        exact ⟨by first | rfl | (simp; done) | (simp [*]; done), by repeat (first | exact Drawn0.refl _ | apply Drawn0.step)⟩
def slices_Contains_string_string.f (k : Nat) (l0 : List ByteArray) (a1 : ByteArray) : Option (Bool) := (slices_Index_string_string.f k l0 a1).bind fun t107 => (some (decide (t107 ≥ 0)))
theorem slices_Contains_string_string.mono : ∀ a0 a1 k, LeO (slices_Contains_string_string.f k a0 a1) (slices_Contains_string_string.f (k + 1) a0 a1) := by
  intro a0 a1 k
  unfold slices_Contains_string_string.f
  repeat' first
      | (with_reducible exact slices_Index_string_string.mono _ _ _)
      | (with_reducible exact LeO.refl _)
      | (with_reducible exact LeO.none _)
      | (with_reducible refine LeO.ite ?_ ?_)
      | (with_reducible refine LeO.bind ?_ (fun _ => ?_))
      | exact slices_Index_string_string.mono _ _ _
      | exact LeO.none _
      | refine LeO.ite ?_ ?_
      | refine LeO.bind ?_ (fun _ => ?_)
set_option maxHeartbeats 8000000 in
set_option maxRecDepth 100000 in
theorem slices_Contains_string_string.calls (k : Nat) (A0 : Option Addr) (c0 : Nat) (l0 : List ByteArray) (a1 : ByteArray) (r : Bool) (w : World) (hr0 : Kd.C Kd.string w A0 l0.length l0) (hc0 : l0.length ≤ c0) (h : slices_Contains_string_string.f k l0 a1 = some r) :
    Calls Tryd.prog 27 #[.slice A0 l0.length c0, .string a1] w fun e w' => e = .returned (.bool r) ∧ Drawn0 w w' := by
  have HR0 := Aside0.mk hr0
  have HC0 := Aside0.mk hc0
  clear hr0 hc0
  have H : ((slices_Index_string_string.f k l0 a1).bind fun t107 => (some (decide (t107 ≥ 0)))) = some r := h
  clear h
  replace H := Option.bind_eq_some_iff.mp H
  obtain ⟨t107, A30, H⟩ := H
  replace H : (some (decide (t107 ≥ 0))) = some r := H
  have A3 := Aside0.mk A30
  clear A30
  obtain rfl := Option.some.inj H
  go_enter Tryd.func27, Tryd.ntmps27
  go_wp2_with (first | ((with_reducible refine gate_callee (f := 40) rfl ?_); refine goesL_ (some 7) rfl rfl Tryd.func40 (by kernel_rfl) rfl #[.slice A0 l0.length c0, .string a1] rfl (by (try simp only [List.map_toArray, List.map_cons, List.map_nil]); first | done | rfl | (simp only [List.length_drop, List.length_take]; rfl)) ?_; (with_reducible refine (slices_Index_string_string.calls k _ _ l0 a1 t107 _ ?side1 ?side2 A3.out).mono ?_); (case side1 => repeat (first | exact HR0.out | (with_reducible refine Kd.C_alloc ?_ _) | (with_reducible refine Kd.C_drewN ?_ _) | (with_reducible refine Kd.C_drew ?_))); (case side2 => exact HC0.out); rintro e w' ⟨rfl, ⟨nd, rfl⟩⟩; refine ⟨_, rfl, ?_⟩))
  go_ret
  exact ⟨by first | rfl | (simp; done) | (simp [*]; done), by repeat (first | exact Drawn0.refl _ | apply Drawn0.step)⟩
def expr_reserved.f (k : Nat) (a0 : ByteArray) : Option (Bool) := (slices_Contains_string_string.f k (([(⟨#[116, 114, 117, 101]⟩ : ByteArray), (⟨#[102, 97, 108, 115, 101]⟩ : ByteArray), (⟨#[110, 111, 116]⟩ : ByteArray), (⟨#[97, 110, 100]⟩ : ByteArray), (⟨#[111, 114]⟩ : ByteArray), (⟨#[97, 116]⟩ : ByteArray), (⟨#[116, 105, 109, 101]⟩ : ByteArray), (⟨#[122, 111, 110, 101]⟩ : ByteArray)] : List ByteArray)) a0).bind fun t118 => (some t118)
theorem expr_reserved.mono : ∀ a0 k, LeO (expr_reserved.f k a0) (expr_reserved.f (k + 1) a0) := by
  intro a0 k
  unfold expr_reserved.f
  repeat' first
      | (with_reducible exact slices_Contains_string_string.mono _ _ _)
      | (with_reducible exact LeO.refl _)
      | (with_reducible exact LeO.none _)
      | (with_reducible refine LeO.ite ?_ ?_)
      | (with_reducible refine LeO.bind ?_ (fun _ => ?_))
      | exact slices_Contains_string_string.mono _ _ _
      | exact LeO.none _
      | refine LeO.ite ?_ ?_
      | refine LeO.bind ?_ (fun _ => ?_)
set_option maxHeartbeats 8000000 in
set_option maxRecDepth 100000 in
theorem expr_reserved.calls (k : Nat) (a0 : ByteArray) (r : Bool) (w : World) (h : expr_reserved.f k a0 = some r) :
    Calls Tryd.prog 77 #[.string a0] w fun e w' => e = .returned (.bool r) ∧ Below w.heap.size w w' := by
  have HB := Aside0.mk (Below.refl w.heap.size w)
  have H : ((slices_Contains_string_string.f k (([(⟨#[116, 114, 117, 101]⟩ : ByteArray), (⟨#[102, 97, 108, 115, 101]⟩ : ByteArray), (⟨#[110, 111, 116]⟩ : ByteArray), (⟨#[97, 110, 100]⟩ : ByteArray), (⟨#[111, 114]⟩ : ByteArray), (⟨#[97, 116]⟩ : ByteArray), (⟨#[116, 105, 109, 101]⟩ : ByteArray), (⟨#[122, 111, 110, 101]⟩ : ByteArray)] : List ByteArray)) a0).bind fun t118 => (some t118)) = some r := h
  clear h
  obtain ⟨y115, hy115⟩ : ∃ y_ : List ByteArray, y_ = (([(⟨#[116, 114, 117, 101]⟩ : ByteArray), (⟨#[102, 97, 108, 115, 101]⟩ : ByteArray), (⟨#[110, 111, 116]⟩ : ByteArray), (⟨#[97, 110, 100]⟩ : ByteArray), (⟨#[111, 114]⟩ : ByteArray), (⟨#[97, 116]⟩ : ByteArray), (⟨#[116, 105, 109, 101]⟩ : ByteArray), (⟨#[122, 111, 110, 101]⟩ : ByteArray)] : List ByteArray)) := ⟨_, rfl⟩
  replace H : ((slices_Contains_string_string.f k y115 a0).bind fun t118 => (some t118)) = some r := by first | (rw [hy115]; with_reducible exact H) | (have H2_ := (Option.bind_some _ _).symm.trans H; rw [hy115]; with_reducible exact H2_) | (have H2_ := (Option.bind_some _ _).symm.trans H; with_reducible exact H2_) | with_reducible exact H | (rw [hy115]; exact H) | exact H
  have Ny115 := Aside0.mk hy115
  clear hy115
  replace H := Option.bind_eq_some_iff.mp H
  obtain ⟨t118, A20, H⟩ := H
  replace H : (some t118) = some r := H
  have A2 := Aside0.mk A20
  clear A20
  obtain rfl := Option.some.inj H
  go_enter Tryd.func77, Tryd.ntmps77
  go_wp2_with (first | ((with_reducible refine gate_dst (N := 3) rfl ?_); refine Kd.R_lit Kd.string _ 9 ?hg (N := 3) ?hd (xs := ([(⟨#[116, 114, 117, 101]⟩ : ByteArray), (⟨#[102, 97, 108, 115, 101]⟩ : ByteArray), (⟨#[110, 111, 116]⟩ : ByteArray), (⟨#[97, 110, 100]⟩ : ByteArray), (⟨#[111, 114]⟩ : ByteArray), (⟨#[97, 116]⟩ : ByteArray), (⟨#[116, 105, 109, 101]⟩ : ByteArray), (⟨#[122, 111, 110, 101]⟩ : ByteArray)] : List ByteArray)) (inner := [.string (⟨#[116, 114, 117, 101]⟩ : ByteArray), .string (⟨#[102, 97, 108, 115, 101]⟩ : ByteArray), .string (⟨#[110, 111, 116]⟩ : ByteArray), .string (⟨#[97, 110, 100]⟩ : ByteArray), .string (⟨#[111, 114]⟩ : ByteArray), .string (⟨#[97, 116]⟩ : ByteArray), .string (⟨#[116, 105, 109, 101]⟩ : ByteArray), .string (⟨#[122, 111, 110, 101]⟩ : ByteArray)]) (ok := fun _ => True) (okp := fun _ => True) ?hr ?hp (fun _ hk => hk) trivial (Below.refl _ _) (Nat.le_refl _) (by simp) ?_; (case hd => rfl); (case hg => rfl); (case hr => first | (go_simp; done) | (go_simp; rfl)); (case hp => exact (Reps.one (show Kd.M Kd.string _ _ _ (⟨#[116, 114, 117, 101]⟩ : ByteArray) [.string (⟨#[116, 114, 117, 101]⟩ : ByteArray)] from rfl) (Reps.one (show Kd.M Kd.string _ _ _ (⟨#[102, 97, 108, 115, 101]⟩ : ByteArray) [.string (⟨#[102, 97, 108, 115, 101]⟩ : ByteArray)] from rfl) (Reps.one (show Kd.M Kd.string _ _ _ (⟨#[110, 111, 116]⟩ : ByteArray) [.string (⟨#[110, 111, 116]⟩ : ByteArray)] from rfl) (Reps.one (show Kd.M Kd.string _ _ _ (⟨#[97, 110, 100]⟩ : ByteArray) [.string (⟨#[97, 110, 100]⟩ : ByteArray)] from rfl) (Reps.one (show Kd.M Kd.string _ _ _ (⟨#[111, 114]⟩ : ByteArray) [.string (⟨#[111, 114]⟩ : ByteArray)] from rfl) (Reps.one (show Kd.M Kd.string _ _ _ (⟨#[97, 116]⟩ : ByteArray) [.string (⟨#[97, 116]⟩ : ByteArray)] from rfl) (Reps.one (show Kd.M Kd.string _ _ _ (⟨#[116, 105, 109, 101]⟩ : ByteArray) [.string (⟨#[116, 105, 109, 101]⟩ : ByteArray)] from rfl) (Reps.one (show Kd.M Kd.string _ _ _ (⟨#[122, 111, 110, 101]⟩ : ByteArray) [.string (⟨#[122, 111, 110, 101]⟩ : ByteArray)] from rfl) (Reps.none _ _)))))))))); intro v116 w3 ho4 hb hg_ hnew_; clear hg_ hnew_; (first | rw [← Ny115.out] at ho4 | (simp only [Int.reduceToNat] at ho4; rw [← Ny115.out] at ho4)); have n0_ := Aside0.mk (Kd.R_lower ho4 (below_size (by repeat (first | (with_reducible first | exact HB.out | apply below_alloc | apply pw_below_drewN | apply below_drew1) | exact HB.out)))); have n1_ := Aside0.mk (below_step (by repeat (first | (with_reducible first | exact HB.out | apply below_alloc | apply pw_below_drewN | apply below_drew1) | exact HB.out)) hb); clear HB; have HO117 := n0_; have HB := n1_; clear n0_ n1_; clear hb ho4; obtain ⟨Ao5, co5, eo5⟩ := Kd.R_slice HO117.out; subst eo5) | ((with_reducible refine gate_callee (f := 27) rfl ?_); refine goesL_ (some 5) rfl rfl Tryd.func27 (by kernel_rfl) rfl #[.slice Ao5 y115.length co5, .string a0] rfl (by (try simp only [List.map_toArray, List.map_cons, List.map_nil]); first | done | rfl | (simp only [List.length_drop, List.length_take]; rfl)) ?_; (with_reducible refine (slices_Contains_string_string.calls k _ _ y115 a0 t118 _ ?side1 ?side2 A2.out).mono ?_); (case side1 => repeat (first | exact (Kd.R_reads' HO117.out).2.2 | (with_reducible refine Kd.C_alloc ?_ _) | (with_reducible refine Kd.C_drewN ?_ _) | (with_reducible refine Kd.C_drew ?_))); (case side2 => exact (Kd.R_reads' HO117.out).2.1); rintro e w' ⟨rfl, ⟨nd, rfl⟩⟩; refine ⟨_, rfl, ?_⟩))
  go_ret
  exact ⟨by first | rfl | (simp [errW_none, errW_some] <;> rfl) | (simp [*, errW_none, errW_some] <;> rfl), by repeat (first | (with_reducible first | exact HB.out | apply below_alloc | apply pw_below_drewN | apply below_drew1) | exact HB.out)⟩
end Go.Proofs.YtnjoncbgekonbaaDoor.PExpr
end
