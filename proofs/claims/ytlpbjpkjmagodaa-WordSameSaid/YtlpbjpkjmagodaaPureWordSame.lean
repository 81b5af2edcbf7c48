/- For all two texts: small letters stay small; the two are the same but for that, just if their small letters are; each is the same as itself. Conditions: none but the row's own. -/
import Derived.Test.YtlpbjpkjmagodaaLemG
namespace Go.Proofs.Ytlpbjpkjmagodaa.Pure
open Go.RowKit Go.Proofs.Ytlpbjpkjmagodaa.PWord Go.Proofs.Ytlpbjpkjmagodaa.Lem Go.Proofs.YtlpbjpkjmagodaaW.PrintWords Go.Proofs.YtlpbjpkjmagodaaW.PrintLast Go.Proofs.YtlpbjpkjmagodaaW.PrintMore
theorem low_size (s : ByteArray) : (low s).size = s.size := by
  unfold low
  rw [strOfNums_size]
  unfold lowL
  rw [List.length_map, bytes_len]
theorem lowB_range (c : Int) (h0 : 0 ≤ c) (h1 : c ≤ 255) : 0 ≤ lowB c ∧ lowB c ≤ 255 := by
  unfold lowB
  split <;> omega
theorem lowB_lowB (c : Int) : lowB (lowB c) = lowB c := by
  unfold lowB
  repeat' split
  all_goals omega
theorem bytes_low (s : ByteArray) : bytesOf (low s) = lowL s := by
  unfold low bytesOf
  rw [strOfNums_data, List.map_map]
  conv => rhs; rw [← List.map_id (lowL s)]
  refine List.map_congr_left fun c hc => ?_
  unfold lowL at hc
  obtain ⟨b, hb, rfl⟩ := List.mem_map.mp hc
  unfold bytesOf at hb
  obtain ⟨u, _, rfl⟩ := List.mem_map.mp hb
  have hr := lowB_range (u.toNat : Int) (Int.natCast_nonneg _) (by have := u.toNat_lt; omega)
  show ((UInt8.ofNat (lowB (u.toNat : Int)).toNat).toNat : Int) = lowB (u.toNat : Int)
  rw [UInt8.toNat_ofNat']
  omega
theorem low_low (s : ByteArray) : low (low s) = low s := by
  unfold low
  congr 1
  show (bytesOf (low s)).map lowB = lowL s
  rw [bytes_low]
  unfold lowL
  rw [List.map_map]
  refine List.map_congr_left fun c _ => lowB_lowB c
theorem WordSame : computuslaw05_WordSame.Pure := by
  intro a0 a1 h0 h1
  have l0 := (lower_eq a0 h0).1
  have l1 := (lower_eq a1 h1).1
  have l2 := (lower_eq (low a0) (by rw [low_size]; exact h0)).1
  have s0 := (same_eq a0 (low a0) h0 (by rw [low_size]; exact h0)).1
  have s1 := (same_eq a0 a1 h0 h1).1
  have s2 := (same_eq a1 a0 h1 h0).1
  rw [low_low] at l2 s0
  refine Ev.rounds (r := true) ?_
  unfold computuslaw05_WordSame.f
  simp only [l0, l1, l2, s0, s1, s2, Option.bind_some, if_true, low_size, beq_self_eq_true]
  have e : (((low a0).toList == (low a1).toList) == ((low a1).toList == (low a0).toList)) = true := by
    rw [beq_iff_eq, Bool.eq_iff_iff]
    simp only [beq_iff_eq]
    exact eq_comm
  simp only [e, if_true]
  exact Ev.bind known_ev (Ev.now true)
end Go.Proofs.Ytlpbjpkjmagodaa.Pure
