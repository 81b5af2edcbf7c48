/- For every text that is right: all its parts, each at its place, and blanks, are the text. Conditions: none but the row's own. -/
import Derived.Test.YtlpbjpkjmagodaaLemF
namespace Go.Proofs.Ytlpbjpkjmagodaa.Pure
open Go.RowKit Go.Proofs.Ytlpbjpkjmagodaa.PWord Go.Proofs.Ytlpbjpkjmagodaa.Lem Go.Proofs.YtlpbjpkjmagodaaW.PrintWords Go.Proofs.YtlpbjpkjmagodaaW.PrintLast Go.Proofs.YtlpbjpkjmagodaaW.PrintMore
theorem WordWhole : computuslaw05_WordWhole.Pure := by
  intro a0 _
  obtain ⟨l, at_, e, hl, h1, _⟩ := split_eq a0
  refine Ev.rounds (r := true) ?_
  unfold computuslaw05_WordWhole.f
  simp only [h1, Option.bind_some]
  by_cases he : e = 0
  · subst he
    simp only [if_true]
    obtain ⟨hs, hR⟩ := split_run h1
    obtain ⟨last, hc⟩ := cov_run a0 hR (Nat.zero_le _) ⟨fun j hj => absurd hj (Nat.not_lt_zero j), Nat.le_refl _, fun i _ hi => absurd hi (Nat.not_lt_zero i), fun hh => absurd rfl hh⟩
    exact whole_loop a0 hs l hl hc l.length 0 (by omega)
  · simp only [if_neg he]
    have hn : l = [] := by
      unfold word_Split.f at h1
      by_cases hs : a0.size > 2048
      · rw [if_pos hs] at h1
        exact (Prod.mk.inj (Option.some.inj h1)).1.symm
      · rw [if_neg hs] at h1
        have hI : Inv [] 0 0 := ⟨fun h => absurd rfl h, fun x hx => by cases hx⟩
        rcases run_or_bad a0 _ 0 rfl with hr | ⟨q, hq⟩
        · obtain ⟨R, hR⟩ := hr [] 0
          rw [sp_run a0 (by omega) hR _ (by omega) hI] at h1
          exact absurd (Prod.mk.inj (Prod.mk.inj (Option.some.inj h1)).2).2.symm he
        · rw [sp_bad a0 (by omega) hq _ _ _ (by omega) hI] at h1
          exact (Prod.mk.inj (Option.some.inj h1)).1.symm
    subst hn
    exact Ev.bind known_ev (Ev.now true)
end Go.Proofs.Ytlpbjpkjmagodaa.Pure
