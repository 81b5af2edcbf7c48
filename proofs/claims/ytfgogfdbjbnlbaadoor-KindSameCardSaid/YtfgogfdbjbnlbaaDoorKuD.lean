/- What the claim of CardKindFinds needs, out of the session's texts, in their order. -/
import Derived.Test.YtfgogfdbjbnlbaaDoorKuC
import Derived.Deep.RegionLaw
import Derived.RegionTactic
section
namespace Go.Proofs.YtfgogfdbjbnlbaaDoor.PExpr
open Go.RowKit Go.Proofs.YtfgogfdbjbnlbaaDoorW.PrintWords Go.Proofs.YtfgogfdbjbnlbaaDoorW.PrintLast Go.Proofs.YtfgogfdbjbnlbaaDoorW.PrintMore
set_option linter.unusedVariables false
set_option linter.unusedSimpArgs false
abbrev Tk := S87
abbrev kTk := k87
abbrev Nd := S58
abbrev kNd := k58
structure Kept (S : Nat → Prop) (w w' : World) : Prop where
  os : w'.os = w.os
  tape : w'.tape = w.tape
  output : w'.output = w.output
  size : w.heap.size ≤ w'.heap.size
  block : ∀ k, k < w.heap.size → ¬ S k → w'.heap[k]? = w.heap[k]?
theorem Kept.refl (S : Nat → Prop) (w : World) : Kept S w w := ⟨rfl, rfl, rfl, Nat.le_refl _, fun _ _ _ => rfl⟩
theorem Kept.trans {S T : Nat → Prop} {a b c : World} (h : Kept S a b) (k : Kept T b c) (hT : ∀ j, j < a.heap.size → T j → S j) : Kept S a c :=
  ⟨k.os.trans h.os, k.tape.trans h.tape, k.output.trans h.output, Nat.le_trans h.size k.size, fun j hj hn => by
    rw [k.block j (by have := h.size; omega) (fun q => hn (hT j hj q)), h.block j hj hn]⟩
theorem Kept.mono {S T : Nat → Prop} {a b : World} (h : Kept S a b) (hS : ∀ j, j < a.heap.size → S j → T j) : Kept T a b := ⟨h.os, h.tape, h.output, h.size, fun j hj hn => h.block j hj (fun q => hn (hS j hj q))⟩
theorem Kept.below {S : Nat → Prop} {a b c : World} (h : Kept S a b) (k : Below b.heap.size b c) : Kept S a c :=
  ⟨k.os.trans h.os, k.tape.trans h.tape, k.output.trans h.output, Nat.le_trans h.size k.size, fun j hj hn => by rw [k.block j (by have := h.size; omega), h.block j hj hn]⟩
theorem Kept.alloc {S : Nat → Prop} {a b : World} (h : Kept S a b) (o : Obj) : Kept S a (b.alloc o) := h.below (below_alloc (Below.refl _ _) o)
theorem Kept.drew {S : Nat → Prop} {a b : World} (h : Kept S a b) : Kept S a b.drew := h.below (below_drew (Below.refl _ _))
theorem Kept.drewN {S : Nat → Prop} {a b : World} (h : Kept S a b) (m : Nat) : Kept S a (b.drewN m) := h.below (pw_below_drewN (Below.refl _ _) m)
theorem Kept.setCell {S : Nat → Prop} {a b : World} (h : Kept S a b) (g i : Nat) (v : Value) (hg : S g ∨ a.heap.size ≤ g) : Kept S a (b.setCell ⟨g, i, none⟩ v) :=
  ⟨h.os, h.tape, h.output, by have := h.size; simpa using this, fun j hj hn => by
    rw [Below.heap_setCell b ⟨g, i, none⟩ v j (fun q => by subst q; rcases hg with hg | hg; exact hn hg; exact absurd hj (by simpa using hg))]
    exact h.block j hj hn⟩
theorem Kept.cell {S : Nat → Prop} {a b : World} (h : Kept S a b) {p : Addr} (hp : p.block < a.heap.size) (hn : ¬ S p.block) : b.cell? p = a.cell? p := by
  unfold World.cell?
  rw [h.block p.block hp hn]
def Rd (g T : Nat) (w : World) (l : List Tk) (d : Int) : Prop :=
  ∃ off c, w.heap[g]? = some (.cells #[.slice (some ⟨T, off, none⟩) l.length c, .int .i64 d] 85 (0, 0)) ∧ l.length ≤ c ∧ T ≠ g ∧ Kd.C kTk w (some ⟨T, off, none⟩) l.length l
theorem Rd.cell {g T : Nat} {w : World} {l : List Tk} {d : Int} (h : Rd g T w l d) : ∃ off c, w.cell? ⟨g, 0, none⟩ = some (.slice (some ⟨T, off, none⟩) l.length c) ∧ w.cell? ⟨g, 1, none⟩ = some (.int .i64 d) ∧ w.frozen? ⟨g, 0, none⟩ = false ∧ w.frozen? ⟨g, 1, none⟩ = false ∧ l.length ≤ c ∧ T ≠ g ∧ Kd.C kTk w (some ⟨T, off, none⟩) l.length l := by
  obtain ⟨off, c, hb, hl, hT, hC⟩ := h
  exact ⟨off, c, by rw [blk_cell hb]; rfl, by rw [blk_cell hb]; rfl, blk_frozen hb 0, blk_frozen hb 1, hl, hT, hC⟩
theorem Rd.lt {g T : Nat} {w : World} {l : List Tk} {d : Int} (h : Rd g T w l d) : g < w.heap.size := by
  obtain ⟨off, c, hb, _⟩ := h
  exact (Array.getElem?_eq_some_iff.1 hb).1
theorem toks_same {w w' : World} {T off n : Nat} {l : List Tk} (h : Kd.C kTk w (some ⟨T, off, none⟩) n l) (hT : w'.heap[T]? = w.heap[T]?) : Kd.C kTk w' (some ⟨T, off, none⟩) n l := by
  refine ⟨h.1, h.2.1, fun hn => ?_⟩
  obtain ⟨ad, e, hc⟩ := h.2.2 hn
  refine ⟨ad, e, fun j p hj => ?_⟩
  obtain ⟨c, h1, h2, h3⟩ := hc j p hj
  refine ⟨c, h1, ?_, fun i u hu => ?_⟩
  · obtain rfl := k87_open h2
    exact k87_mk _ _
  · obtain rfl := Option.some.inj e
    have := h3 i u hu
    unfold World.cell? at this ⊢
    have eb : ((⟨T, off, none⟩ : Addr).add (j * (kTk).sz + i)).block = T := by unfold Addr.add; split <;> rfl
    rw [eb] at this ⊢
    rw [hT]
    exact this
theorem toks_lt {w : World} {T off n : Nat} {l : List Tk} (h : Kd.C kTk w (some ⟨T, off, none⟩) n l) (hn : 0 < n) : T < w.heap.size := by
  obtain ⟨ad, e, hc⟩ := h.2.2 hn
  have hl : 0 < l.length := by have := h.1; omega
  obtain ⟨c, h1, h2, h3⟩ := hc 0 _ (List.getElem?_eq_getElem hl)
  obtain rfl := k87_open h2
  have := h3 0 _ rfl
  obtain rfl := Option.some.inj e
  exact World.block_lt_of_cell? w _ this
theorem Rd.Tlt {g T : Nat} {w : World} {l : List Tk} {d : Int} (h : Rd g T w l d) (hl : l ≠ []) : T < w.heap.size := by
  obtain ⟨off, c, hb, hc, hT, hC⟩ := h
  refine toks_lt hC ?_
  cases l with
  | nil => exact absurd rfl hl
  | cons t r => simp
theorem Rd.kept {g T : Nat} {w w' : World} {l : List Tk} {d : Int} {S : Nat → Prop} (h : Rd g T w l d) (hl : l ≠ []) (k : Kept S w w') (hg : ¬ S g) (hS : ¬ S T) : Rd g T w' l d := by
  have hlt := h.lt
  obtain ⟨off, c, hb, hc, hT, hC⟩ := h
  refine ⟨off, c, by rw [k.block g hlt hg]; exact hb, hc, hT, toks_same hC (k.block T (toks_lt hC ?_) hS)⟩
  cases l with
  | nil => exact absurd rfl hl
  | cons t r => simp
theorem Rd.set1 {g T : Nat} {w : World} {l : List Tk} {d : Int} (h : Rd g T w l d) (d' : Int) : Rd g T (w.setCell ⟨g, 1, none⟩ (.int .i64 d')) l d' := by
  obtain ⟨off, c, hb, hl, hT, hC⟩ := h
  refine ⟨off, c, blk_set hb 1 (.int .i64 d'), hl, hT, toks_same hC ?_⟩
  exact Below.heap_setCell w ⟨g, 1, none⟩ _ T hT
theorem Rd.alloc {g T : Nat} {w : World} {l : List Tk} {d : Int} (h : Rd g T w l d) (o : Obj) : Rd g T (w.alloc o) l d := by
  have hlt := h.lt
  obtain ⟨off, c, hb, hl, hT, hC⟩ := h
  exact ⟨off, c, by rw [(below_alloc (Below.refl w.heap.size w) o).block g hlt]; exact hb, hl, hT, Kd.C_alloc hC o⟩
theorem Rd.drew {g T : Nat} {w : World} {l : List Tk} {d : Int} (h : Rd g T w l d) : Rd g T w.drew l d := by
  have hlt := h.lt
  obtain ⟨off, c, hb, hl, hT, hC⟩ := h
  exact ⟨off, c, by rw [(below_drew (Below.refl w.heap.size w)).block g hlt]; exact hb, hl, hT, Kd.C_drew hC⟩
theorem Rd.drewN {g T : Nat} {w : World} {l : List Tk} {d : Int} (h : Rd g T w l d) (m : Nat) : Rd g T (w.drewN m) l d := by
  have hlt := h.lt
  obtain ⟨off, c, hb, hl, hT, hC⟩ := h
  exact ⟨off, c, by rw [(pw_below_drewN (Below.refl w.heap.size w) m).block g hlt]; exact hb, hl, hT, Kd.C_drewN hC m⟩
theorem Kept.blk {S : Nat → Prop} {a b : World} (h : Kept S a b) {k : Nat} {o : Obj} (hk : a.heap[k]? = some o) (hn : ¬ S k) : b.heap[k]? = some o := by
  rw [h.block k (Array.getElem?_eq_some_iff.1 hk).1 hn]
  exact hk
theorem blk_setO {w : World} {k b i : Nat} {v : Value} {o : Obj} (h : w.heap[k]? = some o) (hn : k ≠ b) : (w.setCell ⟨b, i, none⟩ v).heap[k]? = some o := by
  rw [Below.heap_setCell w ⟨b, i, none⟩ v k hn]
  exact h
theorem Kept.froz {S : Nat → Prop} {a b : World} (h : Kept S a b) {p : Addr} (hp : p.block < a.heap.size) (hn : ¬ S p.block) : b.frozen? p = a.frozen? p := by
  unfold World.frozen?
  rw [h.block p.block hp hn]
theorem Rd.setO {g T : Nat} {w : World} {l : List Tk} {d : Int} (h : Rd g T w l d) (b i : Nat) (v : Value) (hg : b ≠ g) (hbT : b ≠ T) : Rd g T (w.setCell ⟨b, i, none⟩ v) l d := by
  obtain ⟨off, c, hb, hl, hT, hC⟩ := h
  refine ⟨off, c, ?_, hl, hT, toks_same hC (Below.heap_setCell w ⟨b, i, none⟩ v T (fun q => hbT q.symm))⟩
  rw [Below.heap_setCell w ⟨b, i, none⟩ v g (fun q => hg q.symm)]
  exact hb
theorem Rd.below {g T : Nat} {w w' : World} {l : List Tk} {d : Int} (h : Rd g T w l d) (hb : Below w.heap.size w w') : Rd g T w' l d := by
  have hlt := h.lt
  obtain ⟨off, c, hb', hl, hT, hC⟩ := h
  exact ⟨off, c, by rw [hb.block g hlt]; exact hb', hl, hT, Kd.C_below hC hb⟩
theorem toks_tail {w : World} {T off : Nat} {t : Tk} {r : List Tk} (h : Kd.C kTk w (some ⟨T, off, none⟩) (t :: r).length (t :: r)) : Kd.C kTk w (some ⟨T, off + 3, none⟩) r.length r := by
  obtain ⟨h1, h2, h3⟩ := h
  obtain ⟨ad, e, hc⟩ := h3 (by simp)
  obtain rfl := Option.some.inj e
  refine ⟨rfl, by rw [List.length_cons] at h2; omega, fun _ => ⟨_, rfl, fun j p hj => ?_⟩⟩
  obtain ⟨c, q1, q2, q3⟩ := hc (j + 1) p (by simpa using hj)
  refine ⟨c, q1, q2, fun i u hu => ?_⟩
  have := q3 i u hu
  have es : (kTk).sz = 3 := rfl
  rw [es] at this ⊢
  rw [← this]
  congr 1
  unfold Addr.add
  split
  · rename_i hz
    rw [if_neg (by omega)]
    obtain ⟨rfl, rfl⟩ : j = 0 ∧ i = 0 := by omega
    rfl
  · rw [if_neg (by omega)]
    simp
    omega
theorem Rd.tail {g T off c : Nat} {w : World} {t : Tk} {r : List Tk} {d : Int} (h : Rd g T w (t :: r) d) (h0 : w.cell? ⟨g, 0, none⟩ = some (.slice (some ⟨T, off, none⟩) (t :: r).length c)) (hc : (t :: r).length ≤ c) :
    Rd g T (w.setCell ⟨g, 0, none⟩ (.slice (some ⟨T, off + 3, none⟩) r.length (c - 1))) r d := by
  obtain ⟨off', c', hb, hl, hT, hC⟩ := h
  rw [blk_cell hb] at h0
  have e := Option.some.inj (show some (Value.slice (some ⟨T, off', none⟩) (t :: r).length c') = some (Value.slice (some ⟨T, off, none⟩) (t :: r).length c) from h0)
  injection e with e1 e2 e3
  injection e1 with e1
  injection e1 with _ e1 _
  subst e1
  subst e3
  refine ⟨off' + 3, c' - 1, blk_set hb 0 _, by rw [List.length_cons] at hc; omega, hT, toks_same (toks_tail hC) ?_⟩
  exact Below.heap_setCell w ⟨g, 0, none⟩ _ T hT
end Go.Proofs.YtfgogfdbjbnlbaaDoor.PExpr
end
