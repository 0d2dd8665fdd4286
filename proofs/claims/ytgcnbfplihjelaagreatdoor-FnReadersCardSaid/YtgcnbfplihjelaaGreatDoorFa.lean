/- Contracts of functions of the program: no statement of the seat is proved here. Each under the conditions that stand in it. -/
import Derived.Test.YtgcnbfplihjelaaGreatDoorEnv
set_option linter.all false
namespace Go.Proofs.YtgcnbfplihjelaaGreatDoor
open Go.Vs Go.Proofs
def inR (x a b : Int) : Bool := decide (a ≤ x) && decide (x ≤ b)
theorem inR_t {x a b : Int} : inR x a b = true ↔ a ≤ x ∧ x ≤ b := by simp [inR]
theorem inR_f {x a b : Int} : inR x a b = false ↔ ¬ (a ≤ x ∧ x ≤ b) := by rw [← Bool.not_eq_true, inR_t]
def cdiv (a b : Int) : Int := if inR a 0 1000000000000 && inR b 1 1000000000000 then (a + b - 1) / b else 0
theorem is86 : FI 86 Tryz.f86 := ⟨⟨Tryz.f86, Tryz.func86, rfl, rfl, rfl, rfl⟩, rfl⟩
set_option maxRecDepth 20000 in
set_option maxHeartbeats 16000000 in
theorem s_l1In (x a b : Int) : FO 86 [I x, I a, I b] [I x, I a, I b] (B (inR x a b)) := by
  refine fok envOk mixed is86 ⟨rfl, rfl, ?_⟩
  (repeat' ((conv => whnf); first | refine Br.tt ?_ | refine Br.ff ?_ | refine Br.pos (by assumption) ?_ | refine Br.neg (by assumption) ?_ | refine Br.bself ?_ | refine Br.dself ?_ | refine Br.iself ?_ | refine Br.mk (fun _ => ?_) (fun _ => ?_) | refine Nm.mk lenC ?_ | refine Nm.mk (wrapI (by (first | omega | (simp [inR_t, inR_f] at *; omega))) (by (first | omega | (simp [inR_t, inR_f] at *; omega)))) ?_ | refine Nm.mk (wrapQ (by (first | omega | (simp [inR_t, inR_f] at *; omega))) (by (first | omega | (simp [inR_t, inR_f] at *; omega))) (by (first | omega | (simp [inR_t, inR_f] at *; omega)))) ?_ | refine Nm.mk (tmodN (by (first | omega | (simp [inR_t, inR_f] at *; omega)))) ?_ | refine Nm.mk (szS _) ?_ | refine Nm.mk (mi_eq _ _) ?_ | refine Nm.mk (ma_eq _ _) ?_ | refine Rq.mk (by first | (simp [dOwnL, dOwn] <;> fail) | (first | omega | (simp [inR_t, inR_f] at *; omega))) ?_ | refine And.intro (orderFast (by kernel_rfl)) ?_ | refine And.intro (by kernel_rfl) ?_ ))
  all_goals (try (refine Vs.Fin.mk (WkR.eq ?_) (.refl _); first | rfl | (simp_all [inR]; done) | (simp_all [inR]; omega) | grind | grind [inR]))
theorem is82 : FI 82 Tryz.f82 := ⟨⟨Tryz.f82, Tryz.func82, rfl, rfl, rfl, rfl⟩, rfl⟩
set_option maxRecDepth 20000 in
set_option maxHeartbeats 16000000 in
theorem i_InRange (x a b : Int) : FO 82 [I x, I a, I b] [I x, I a, I b] (B (inR x a b)) := by
  refine fok envOk mixed is82 ⟨rfl, rfl, ?_⟩
  (repeat' ((conv => whnf); first | refine Br.tt ?_ | refine Br.ff ?_ | refine Br.pos (by assumption) ?_ | refine Br.neg (by assumption) ?_ | refine Br.bself ?_ | refine Br.dself ?_ | refine Br.iself ?_ | refine Br.mk (fun _ => ?_) (fun _ => ?_) | refine Nm.mk lenC ?_ | refine Nm.mk (wrapI (by (first | omega | (simp [inR_t, inR_f] at *; omega))) (by (first | omega | (simp [inR_t, inR_f] at *; omega)))) ?_ | refine Nm.mk (wrapQ (by (first | omega | (simp [inR_t, inR_f] at *; omega))) (by (first | omega | (simp [inR_t, inR_f] at *; omega))) (by (first | omega | (simp [inR_t, inR_f] at *; omega)))) ?_ | refine Nm.mk (tmodN (by (first | omega | (simp [inR_t, inR_f] at *; omega)))) ?_ | refine Nm.mk (szS _) ?_ | refine Nm.mk (mi_eq _ _) ?_ | refine Nm.mk (ma_eq _ _) ?_ | refine Rq.mk (by first | (simp [dOwnL, dOwn] <;> fail) | (first | omega | (simp [inR_t, inR_f] at *; omega))) ?_ | refine And.intro (orderFast (by kernel_rfl)) ?_ | refine And.intro (by kernel_rfl) ?_ ))
  all_goals (try (refine Vs.Fin.mk (WkR.eq ?_) (.refl _); first | rfl | (simp_all [inR]; done) | (simp_all [inR]; omega) | grind | grind [inR]))
theorem is147 : FI 147 Tryz.f147 := ⟨⟨Tryz.f147, Tryz.func147, rfl, rfl, rfl, rfl⟩, rfl⟩
set_option maxRecDepth 20000 in
set_option maxHeartbeats 16000000 in
theorem s_CeilDiv (a b : Int) : FO 147 [I a, I b] [I a, I b] (I (cdiv a b)) := by
  refine fok envOk mixed is147 ⟨rfl, rfl, ?_⟩
  (repeat' ((conv => whnf); first | refine Br.tt ?_ | refine Br.ff ?_ | refine Br.pos (by assumption) ?_ | refine Br.neg (by assumption) ?_ | refine Br.bself ?_ | refine Br.dself ?_ | refine Br.iself ?_ | refine Br.mk (fun _ => ?_) (fun _ => ?_) | refine Nm.mk lenC ?_ | refine Nm.mk (wrapI (by (first | omega | (simp [inR_t, inR_f] at *; omega))) (by (first | omega | (simp [inR_t, inR_f] at *; omega)))) ?_ | refine Nm.mk (wrapQ (by (first | omega | (simp [inR_t, inR_f] at *; omega))) (by (first | omega | (simp [inR_t, inR_f] at *; omega))) (by (first | omega | (simp [inR_t, inR_f] at *; omega)))) ?_ | refine Nm.mk (tmodN (by (first | omega | (simp [inR_t, inR_f] at *; omega)))) ?_ | refine Nm.mk (szS _) ?_ | refine Nm.mk (mi_eq _ _) ?_ | refine Nm.mk (ma_eq _ _) ?_ | refine Rq.mk (by first | (simp [dOwnL, dOwn] <;> fail) | (first | omega | (simp [inR_t, inR_f] at *; omega))) ?_ | refine And.intro (orderFast (by kernel_rfl)) ?_ | refine And.intro (by kernel_rfl) ?_ | refine Cl.mk (s_l1In _ _ _) ?_ | refine Cl.pre (by simp only [shcLL_ints, shcLL_byts, shcLL_strs]; rfl) ?_))
  all_goals (try (refine Vs.Fin.mk (WkR.eq ?_) (.refl _); first | rfl | (simp_all [cdiv, inR_t]; done) | (simp_all [cdiv, inR_t]; omega) | grind | grind [cdiv, inR_t]))
theorem is109 : FI 109 Tryz.f109 := ⟨⟨Tryz.f109, Tryz.func109, rfl, rfl, rfl, rfl⟩, rfl⟩
set_option maxRecDepth 20000 in
set_option maxHeartbeats 16000000 in
theorem i_CeilDiv (a b : Int) : FO 109 [I a, I b] [I a, I b] (I (cdiv a b)) := by
  refine fok envOk mixed is109 ⟨rfl, rfl, ?_⟩
  (repeat' ((conv => whnf); first | refine Br.tt ?_ | refine Br.ff ?_ | refine Br.pos (by assumption) ?_ | refine Br.neg (by assumption) ?_ | refine Br.bself ?_ | refine Br.dself ?_ | refine Br.iself ?_ | refine Br.mk (fun _ => ?_) (fun _ => ?_) | refine Nm.mk lenC ?_ | refine Nm.mk (wrapI (by (first | omega | (simp [inR_t, inR_f] at *; omega))) (by (first | omega | (simp [inR_t, inR_f] at *; omega)))) ?_ | refine Nm.mk (wrapQ (by (first | omega | (simp [inR_t, inR_f] at *; omega))) (by (first | omega | (simp [inR_t, inR_f] at *; omega))) (by (first | omega | (simp [inR_t, inR_f] at *; omega)))) ?_ | refine Nm.mk (tmodN (by (first | omega | (simp [inR_t, inR_f] at *; omega)))) ?_ | refine Nm.mk (szS _) ?_ | refine Nm.mk (mi_eq _ _) ?_ | refine Nm.mk (ma_eq _ _) ?_ | refine Rq.mk (by first | (simp [dOwnL, dOwn] <;> fail) | (first | omega | (simp [inR_t, inR_f] at *; omega))) ?_ | refine And.intro (orderFast (by kernel_rfl)) ?_ | refine And.intro (by kernel_rfl) ?_ | refine Cl.mk (i_InRange _ _ _) ?_ | refine Cl.pre (by simp only [shcLL_ints, shcLL_byts, shcLL_strs]; rfl) ?_))
  all_goals (try (refine Vs.Fin.mk (WkR.eq ?_) (.refl _); first | rfl | (simp_all [cdiv, inR_t]; done) | (simp_all [cdiv, inR_t]; omega) | grind | grind [cdiv, inR_t]))
/-- How much is left: a negative rest says that it was too much. -/
def szA (n : Nat) (left : Int) : Int := if (n : Int) ≤ left then left - n else -1
theorem szA_ok {n : Nat} {x : Int} (h : decide (szA n x < 0) = false) (hx : 0 ≤ x) : (n : Int) ≤ x := by
  unfold szA at h
  split at h
  · assumption
  · simp at h
theorem szA_no {n : Nat} {x : Int} (h : decide (szA n x < 0) = true) : szA n x = -1 := by
  unfold szA at *
  split
  · rename_i hx
    rw [if_pos hx] at h
    simp at h
    omega
  · rfl
end Go.Proofs.YtgcnbfplihjelaaGreatDoor
