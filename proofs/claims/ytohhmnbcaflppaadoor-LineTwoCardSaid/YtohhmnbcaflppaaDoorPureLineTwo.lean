/- Two sources, one behind the other with a line's end between, have the lines of both. -/
import Derived.Test.YtohhmnbcaflppaaDoorLLemF
namespace Go.Proofs.YtohhmnbcaflppaaDoor.Pure
open Go.RowKit Go.Proofs.YtohhmnbcaflppaaDoor.PLine Go.Proofs.YtohhmnbcaflppaaDoor.LNum Go.Proofs.YtohhmnbcaflppaaDoor.Rd Go.Proofs.YtohhmnbcaflppaaDoorW.PrintWords Go.Proofs.YtohhmnbcaflppaaDoorW.PrintLast Go.Proofs.YtohhmnbcaflppaaDoorW.PrintMore
theorem LineTwo : computuslaw06_LineTwo.Pure := by
  intro a b ha hb
  obtain ⟨r, h1, _⟩ := split_ev a
  obtain ⟨q, h2, _⟩ := split_ev b
  refine Ev.rounds (r := true) ?_
  unfold computuslaw06_LineTwo.f
  simp only [h1, h2, Option.bind_some]
  have stop : ∀ l m, Ev (fun k => computuslaw06_LineTwo.j0 k a b l m true) true := fun l m => Ev.step (f := fun _ => some true) (fun k => by rw [computuslaw06_LineTwo.j0, if_pos rfl]; rfl) (Ev.now _)
  rcases split_cases a r h1 with ⟨e0, hz, hok, hl, rfl⟩ | ⟨e0, e1⟩
  · rcases split_cases b q h2 with ⟨f0, gz, gok, gl, rfl⟩ | ⟨f0, f1⟩
    · simp only [if_true]
      rw [w64 _ (by omega) (by omega)]
      by_cases hsz : (b.size : Int) ≥ 8192 - (a.size : Int)
      · exact Ev.congr (fun k => if_pos hsz) (stop _ _)
      · refine Ev.congr (fun k => if_neg hsz) ?_
        rw [w64 _ (by omega) (by omega)]
        by_cases hc : ((num (linesOf a) 0).length : Int) + ((num (linesOf b) 0).length : Int) > 400
        · rw [decide_eq_true hc]
          exact stop _ _
        · rw [decide_eq_false hc]
          have hsa : (a ++ (⟨#[10]⟩ : ByteArray)).size = a.size + 1 := by rw [ByteArray.size_append]; rfl
          have hsb : (a ++ (⟨#[10]⟩ : ByteArray) ++ b).size ≤ 8192 := by rw [ByteArray.size_append, hsa]; omega
          have htl := two_lines a b
          have hokab : Ok (linesOf (a ++ ⟨#[10]⟩ ++ b)) := by
            rw [htl]
            intro p hp
            rcases List.mem_append.1 hp with hp | hp
            · exact hok p hp
            · exact gok p hp
          have hnum : num (linesOf (a ++ ⟨#[10]⟩ ++ b)) 0 = num (linesOf a) 0 ++ num (linesOf b) (0 + (linesOf a).length) := by rw [htl, num_app]
          have hlen : (num (linesOf b) (0 + ((linesOf a).length : Int))).length = (num (linesOf b) 0).length := num_len _ _ _
          have hs3 := split_of (a ++ ⟨#[10]⟩ ++ b) hsb hokab (by rw [hnum, List.length_append, hlen]; omega)
          have hg := good_of (a ++ ⟨#[10]⟩ ++ b) hsb hokab 0
          have hf : (num (linesOf (a ++ ⟨#[10]⟩ ++ b)) 0).map S43.f1 = (num (linesOf a) 0 ++ num (linesOf b) 0).map S43.f1 := by
            rw [hnum, List.map_append, List.map_append, num_f1 (linesOf b) _ 0]
          have hnl : (num (linesOf (a ++ ⟨#[10]⟩ ++ b)) 0).length ≤ 400 := by rw [hnum, List.length_append, hlen]; omega
          refine Ev.step (fun k => by rw [computuslaw06_LineTwo.j0, if_neg Bool.false_ne_true, if_pos (by omega), if_pos (by omega), hs3, Option.bind_some, if_pos rfl]) ?_
          generalize num (linesOf (a ++ ⟨#[10]⟩ ++ b)) 0 = n at hg hf hnl
          generalize num (linesOf a) 0 = l at hl hc hf
          generalize num (linesOf b) 0 = m at gl hc hf
          refine Ev.bind (taken_ev l (by omega)) ?_
          refine Ev.congr (fun k => if_pos (by rw [List.length_map]; simp; omega)) ?_
          simp only [Option.bind_some, List.nil_append]
          refine Ev.bind (taken_ev m (by omega)) ?_
          refine Ev.congr (fun k => if_pos (by rw [List.length_map, List.length_map]; omega)) ?_
          refine Ev.bind (taken_ev n (by omega)) ?_
          rw [← List.map_append]
          refine Ev.bind (same_lines false n (l ++ m) (like_map _ _ hf) (by omega) (fun x hx => (hg x hx).2.1)) ?_
          simp only [if_true, computuslaw06_known.f, Option.bind_some]
          exact Ev.now _
    · simp only [f0, if_false, if_true]
      exact stop _ _
  · simp only [e0, if_false]
    exact stop _ _
end Go.Proofs.YtohhmnbcaflppaaDoor.Pure
