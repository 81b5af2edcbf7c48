/- For every text and all others: where it stands among them is what the reference says. Conditions: the sizes that the row gives. -/
import Derived.Test.YtlpbjpkjmagodaaLemG
namespace Go.Proofs.Ytlpbjpkjmagodaa.Pure
open Go.RowKit Go.Proofs.Ytlpbjpkjmagodaa.PWord Go.Proofs.Ytlpbjpkjmagodaa.Lem Go.Proofs.YtlpbjpkjmagodaaW.PrintWords Go.Proofs.YtlpbjpkjmagodaaW.PrintLast Go.Proofs.YtlpbjpkjmagodaaW.PrintMore
theorem list_loop (l : List ByteArray) (hn : l.length ≤ 8796093021952) : ∀ (d j : Nat), j + d = l.length → Ev (fun k => computuslaw05_WordKnown.l0 k l l (j : Int)) true := by
  intro d
  induction d with
  | zero =>
    intro j hj
    refine Ev.step (f := fun k => (computuslaw05_known.f k).bind fun t => some t) (fun k => ?_) (Ev.bind known_ev (Ev.now true))
    simp only [computuslaw05_WordKnown.l0]
    rw [if_neg (by omega)]
  | succ d ih =>
    intro j hj
    refine Ev.step (fun k => ?_) (ih (j + 1) (by omega))
    have hw : wrap64 ((j : Int) + 1) = ((j + 1 : Nat) : Int) := by rw [wr _ (by omega) (by omega)]; omega
    simp only [computuslaw05_WordKnown.l0]
    rw [if_pos (by omega), if_pos (by omega), if_pos (by omega), if_pos trivial, hw]
theorem WordKnown (a : ByteArray) (l : List ByteArray) (ha : a.size ≤ 140737488351232) (hl : ∀ x ∈ l, x.size ≤ 140737488351232) (hn : l.length ≤ 8796093021952) : ∃ k, computuslaw05_WordKnown.f k a l = some true := by
  obtain ⟨r, k1, k2⟩ := known_eq a l ha hl (by omega)
  obtain ⟨q, _, _, s1, s2⟩ := short_eq a l ha (by omega)
  refine Ev.rounds (r := true) ?_
  unfold computuslaw05_WordKnown.f
  rw [List.nil_append] 
  have hlen : ([] : List ByteArray).length + l.length < 8796093022208 := by show 0 + l.length < _; omega
  simp only [if_pos hlen, Option.bind_some, k1, s1]
  refine Ev.bind k2 ?_
  simp only [if_true]
  refine Ev.bind s2 ?_
  simp only [bne_self_eq_false]
  refine Ev.step (fun k => ?_) (list_loop l hn l.length 0 (by omega))
  simp only [computuslaw05_WordKnown.j0]
  rw [if_neg (fun hh => by cases hh)]
  rfl
end Go.Proofs.Ytlpbjpkjmagodaa.Pure
