/- What a row's argument of texts reads as, for the row of a law over a []string: plain steps on the form's own words. Conditions: the row's own. -/
import Derived.Test.YtlpbjpkjmagodaaWMore
import Derived.SizedLaws
import Derived.ChangeSlices
import Derived.SliceStrings
namespace Go.Proofs.Ytlpbjpkjmagodaa.StrRow
open Go.ChangeShapes Go.WideShapes Go.RowKit Go.Proofs.YtlpbjpkjmagodaaW.PrintWords
theorem mem_all {H : Type} {P : Program} {e : TypeId} {d : DataW H} : ∀ {l : List (DataW H)}, d ∈ l → ∀ n ∈ d.weights P e, n ∈ DataW.weightsAll P e l
  | x :: l, hd, n, hn => by
    simp only [DataW.weightsAll, List.mem_append]
    rcases List.mem_cons.mp hd with rfl | h
    · exact .inl hn
    · exact .inr (mem_all h n hn)
  | [], hd, _, _ => by cases hd
/-- A slice of texts that came in: what it holds, and that each text and the slice are no longer than their weights allow. -/
theorem open_texts {H : Type} {enc : TypeId × Value → H} {P : Program} {W : World} {base : Nat} {spare : Nat → Bool} {held : Bool} {t e : TypeId} {a : Option Addr} {len cap : Nat} {d : DataW H} {ps : List MemPlace} {ts : List TypeId} {ds : List (DataW H)} {j : Nat}
    (hsz : (DataW.weightsEach P ts ds).all (· ≤ reachBytes) = true) (ht : ts[j]? = some t) (hd : ds[j]? = some d) (hu : P.underlying t = some (.slice e)) (he : P.underlying e = some .string) (hc : P.cellsOf e = 1) (hB : P.bytesOf e = 16)
    (h : DataW.Trod enc P W base spare held t (.slice a len cap) d ps) :
    ∃ l : List ByteArray, l.length = len ∧ len ≤ cap ∧ Kd.C Kd.string W a l.length l ∧ (∀ s ∈ l, s.size ≤ 140737488351232) ∧ l.length ≤ 8796093021952 := by
  obtain ⟨fuel, hf⟩ := h
  rcases open_strings hu he hc hf with ⟨hcs, _⟩ | ⟨x, l, c, ss, hcs, _, hl, hm, hz, hx, hcell, hms⟩
  · simp [Value.cells] at hcs
    obtain ⟨rfl, rfl, rfl⟩ := hcs
    exact ⟨[], rfl, Nat.le_refl _, ⟨rfl, by simp, fun hn => absurd hn (by simp)⟩, fun s hs => absurd hs (by simp), by simp⟩
  · simp [Value.cells] at hcs
    obtain ⟨rfl, rfl, rfl⟩ := hcs
    obtain ⟨hx, _⟩ := Prod.mk.inj hx
    subst hx
    have hlen : len ≤ ss.length := by
      rw [hz]
      split
      · exact hl
      · exact Nat.le_refl _
    have hsl := sized_slice hsz ht hd hu
    rw [hB] at hsl
    have hl1 : (strs (H := H) (ss.take len)).length + (strs (H := H) (ss.drop len)).length = ss.length := by
      simp [strs]
      omega
    rw [hl1] at hsl
    have hr : reachBytes = 140737488351232 := rfl
    have htl : (ss.take len).length = len := by rw [List.length_take]; omega
    refine ⟨ss.take len, htl, hl, ⟨rfl, by rw [htl]; omega, fun hn => ⟨x, rfl, fun i p hp => ⟨[.string p], rfl, rfl, fun k u hk => ?_⟩⟩⟩, fun s hs => ?_, by rw [htl]; omega⟩
    · rcases k with _ | k
      · obtain rfl := Option.some.inj hk
        have hi : i < len := by
          have := (List.getElem?_eq_some_iff.1 hp).1
          omega
        have hg := hcell i (by omega)
        rw [List.getElem?_take_of_lt hi] at hp
        rw [List.getD_eq_getElem?_getD, hp] at hg
        show W.cell? (x.add (i * 1 + 0)) = _
        rw [Nat.mul_one, Nat.add_zero]
        exact hg
      · cases hk
    · have hmem : (DataW.lit (.string s.data.toList) : DataW H) ∈ strs (H := H) (ss.take len) := by
        unfold strs
        exact List.mem_map.mpr ⟨s, hs, rfl⟩
      have h1 : s.data.toList.length ∈ DataW.weights P t (.slice (strs (H := H) (ss.take len)) (strs (H := H) (ss.drop len))) := by
        simp only [DataW.weights, hu]
        refine List.mem_cons_of_mem _ (List.mem_append.mpr (.inl (mem_all hmem _ ?_)))
        simp [DataW.weights]
      have := List.all_eq_true.1 hsz _ (DataW.weights_mem_each ht hd _ h1)
      have h2 : s.data.toList.length ≤ reachBytes := by simpa using this
      rw [Array.length_toList] at h2
      exact h2
end Go.Proofs.Ytlpbjpkjmagodaa.StrRow
