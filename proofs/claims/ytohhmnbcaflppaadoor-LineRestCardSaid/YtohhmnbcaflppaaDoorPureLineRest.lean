/- What is left out of a line changes nothing. -/
import Derived.Test.YtohhmnbcaflppaaDoorLLemF
namespace Go.Proofs.YtohhmnbcaflppaaDoor.Pure
open Go.RowKit Go.Proofs.YtohhmnbcaflppaaDoor.PLine Go.Proofs.YtohhmnbcaflppaaDoor.LNum Go.Proofs.YtohhmnbcaflppaaDoor.Rd Go.Proofs.YtohhmnbcaflppaaDoorW.PrintWords Go.Proofs.YtohhmnbcaflppaaDoorW.PrintLast Go.Proofs.YtohhmnbcaflppaaDoorW.PrintMore
theorem rest_loop (s t : ByteArray) (hz : s.size ≤ 8192) (hok : Ok (linesOf s)) (hl : (num (linesOf s) 0).length ≤ 400) (hsz : s.size + 1 + t.size ≤ 8192) :
    ∀ (d i : Nat), i + d = t.size → (∀ j (hj : j < t.size), j < i → 32 ≤ (t[j]).toNat ∧ (t[j]).toNat ≤ 126) → Ev (fun k => computuslaw06_LineRest.l0 k s t (num (linesOf s) 0) (i : Int)) true := by
  intro d
  induction d with
  | zero =>
    intro i hd hv
    have ht : Vis t.data.toList := by
      intro b hb
      obtain ⟨j, hj, rfl⟩ := List.getElem_of_mem hb
      rw [Utf.len_list] at hj
      exact hv j hj (by omega)
    have hsa : (s ++ (⟨#[35]⟩ : ByteArray)).size = s.size + 1 := by rw [ByteArray.size_append]; rfl
    have hsb : (s ++ (⟨#[35]⟩ : ByteArray) ++ t).size ≤ 8192 := by rw [ByteArray.size_append, hsa]; exact hsz
    have hm := rest_lines s t hok ht
    have hnum := num_congr _ _ 0 hm
    have hs2 := split_of (s ++ ⟨#[35]⟩ ++ t) hsb (ok_congr _ _ hm.symm hok) (by rw [hnum]; exact hl)
    rw [hnum] at hs2
    have hg := good_of s hz hok 0
    refine Ev.step (fun k => by rw [computuslaw06_LineRest.l0, if_neg (by omega), if_pos (by omega), if_pos (by omega), hs2, Option.bind_some, if_pos rfl]) ?_
    generalize num (linesOf s) 0 = l at hl hg
    refine Ev.bind (taken_ev l (by omega)) (Ev.bind (taken_ev l (by omega)) (Ev.bind (same_lines true l l (like_refl true _) (by omega) (fun x hx => (hg x hx).2.1)) ?_))
    simp only [if_true, computuslaw06_known.f, Option.bind_some]
    exact Ev.now _
  | succ d ih =>
    intro i hd hv
    have hi : i < t.size := by omega
    have hbt := bt_nat t i hi
    by_cases h1 : (t[i]).toNat < 32
    · refine Ev.step (f := fun _ => some true) (fun k => ?_) (Ev.now _)
      rw [computuslaw06_LineRest.l0, if_pos (by omega), if_pos (by omega), hbt, if_pos (by omega)]
      rfl
    · by_cases h2 : 126 < (t[i]).toNat
      · refine Ev.step (f := fun _ => some true) (fun k => ?_) (Ev.now _)
        rw [computuslaw06_LineRest.l0, if_pos (by omega), if_pos (by omega), hbt, if_neg (by omega), if_pos (by omega)]
        rfl
      · refine Ev.step (f := fun k => computuslaw06_LineRest.l0 k s t (num (linesOf s) 0) ((i + 1 : Nat) : Int)) (fun k => ?_) (ih (i + 1) (by omega) (fun j hj hlt => ?_))
        · rw [computuslaw06_LineRest.l0, if_pos (by omega), if_pos (by omega), hbt, if_neg (by omega), if_neg (by omega), w64 _ (by omega) (by omega)]
          rfl
        · by_cases hji : j = i
          · subst hji
            omega
          · exact hv j hj (by omega)
theorem LineRest : computuslaw06_LineRest.Pure := by
  intro s t hs ht
  obtain ⟨r, h1, _⟩ := split_ev s
  refine Ev.rounds (r := true) ?_
  unfold computuslaw06_LineRest.f
  simp only [h1, Option.bind_some]
  rcases split_cases s r h1 with ⟨e0, hz, hok, hl, rfl⟩ | ⟨e0, e1⟩
  · simp only [if_true]
    rw [w64 _ (by omega) (by omega)]
    by_cases hsz : (t.size : Int) ≥ 8192 - (s.size : Int)
    · rw [decide_eq_true hsz]
      exact Ev.step (f := fun _ => some true) (fun k => by rw [computuslaw06_LineRest.j0, if_pos rfl]; rfl) (Ev.now _)
    · rw [decide_eq_false hsz]
      refine Ev.step (fun k => by rw [computuslaw06_LineRest.j0, if_neg Bool.false_ne_true]) ?_
      exact rest_loop s t hz hok hl (by omega) t.size 0 (by omega) (fun j hj h => by omega)
  · simp only [e0, if_false]
    exact Ev.step (f := fun _ => some true) (fun k => by rw [computuslaw06_LineRest.j0, if_pos rfl]; rfl) (Ev.now _)
end Go.Proofs.YtohhmnbcaflppaaDoor.Pure
