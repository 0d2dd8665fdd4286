/- Contracts of functions of the program: no statement of the seat is proved here. Each under the conditions that stand in it. -/
import Derived.Test.YtoekfmkbkffciaaGreatDoorKa
set_option linter.all false
namespace Go.Proofs.YtoekfmkbkffciaaGreatDoor
open Go.Vs Go.Proofs
theorem flat_cut2 (b : List UInt8) (s : Nat) : ∀ k, (List.range k).flatMap (cut b s) = b.take (k * s)
  | 0 => by simp
  | k + 1 => by
    rw [List.range_succ, List.flatMap_append, flat_cut2 b s k]
    simp only [List.flatMap_cons, List.flatMap_nil, List.append_nil, cut]
    rw [Nat.add_mul, Nat.one_mul, List.take_add]
theorem plan_facts2 (b : List UInt8) (size : Int) (hb : b.length < 24) (hs : 3 ≤ size ∧ size ≤ 60) : ∃ (p : Mani) (G : Nat → List UInt8), mkMani b size = p ∧ vMani p = true ∧ p.dig.length ≤ 8 ∧ (∀ t, t < p.dig.length → segAt b p t = G t ∧ vSeg p t (G t) = true ∧ 0 < (G t).length) ∧ (∀ t, (G t).length ≤ 24) ∧ (List.range p.dig.length).flatMap G = b := by
  obtain ⟨s, rfl⟩ : ∃ s : Nat, size = s := ⟨size.toNat, by omega⟩
  obtain ⟨n, hn⟩ : ∃ n : Nat, cdiv b.length s = n := ⟨(cdiv b.length s).toNat, by have := cdiv_nn b.length s; omega⟩
  have hiff := fun i => cdiv_iff (a := b.length) (s := s) (by omega) (by omega) (by omega) i
  rw [hn] at hiff
  have e : mkMani b s = ⟨s, b.length, digs b s n⟩ := by
    unfold mkMani
    rw [if_pos (by simp [inR_t]; omega), hn]
    simp
  have hv : vMani ⟨s, b.length, digs b s n⟩ = true := by
    simp only [vMani, Bool.and_eq_true, decide_eq_true_eq, inR_t, digs_len, hn, List.all_eq_true]
    refine ⟨⟨⟨by omega, by omega⟩, trivial⟩, ?_⟩
    intro d hd
    obtain ⟨i, _, rfl⟩ := List.mem_map.1 hd
    have := digest_b (b2i (cut b s i))
    simp only [okDig, inR_t]; omega
  have h8 := vMani_len hv
  refine ⟨_, cut b s, e, hv, h8, ?_, ?_, ?_⟩
  · intro t ht
    rw [digs_len] at ht
    have hlt := (hiff t).1 (by omega)
    have hin : inR (t : Int) 0 (((digs b s n).length : Int) - 1) = true := by rw [digs_len, inR_t]; omega
    refine ⟨?_, ?_, ?_⟩
    · rw [segAt_yes hv rfl hin]; simp
    · simp only [vSeg, hv, hin, Bool.true_and, Bool.and_eq_true, decide_eq_true_eq]
      refine ⟨?_, ?_⟩
      · simp only [cut, List.length_take, List.length_drop, mi]
        rw [show ((t : Int) * s) = ((t * s : Nat) : Int) by rw [Int.natCast_mul]]
        split <;> omega
      · have : t < (digs b s n).length := by rw [digs_len]; exact ht
        simp [digs, ht]
    · simp only [cut, List.length_take, List.length_drop]; omega
  · intro t
    simp only [cut, List.length_take, List.length_drop]; omega
  · rw [flat_cut2, digs_len, List.take_of_length_le]
    have h1 := fun h => (hiff n).2 h
    by_cases h : n * s < b.length
    · have := h1 h; omega
    · omega
end Go.Proofs.YtoekfmkbkffciaaGreatDoor
