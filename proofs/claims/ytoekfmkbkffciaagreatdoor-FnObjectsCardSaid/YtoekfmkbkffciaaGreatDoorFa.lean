/- Contracts of functions of the program: no statement of the seat is proved here. Each under the conditions that stand in it. -/
import Derived.Test.YtoekfmkbkffciaaGreatDoorEnv
set_option linter.all false
namespace Go.Proofs.YtoekfmkbkffciaaGreatDoor
open Go.Vs Go.Proofs
def inR (x a b : Int) : Bool := decide (a ≤ x) && decide (x ≤ b)
theorem inR_t {x a b : Int} : inR x a b = true ↔ a ≤ x ∧ x ≤ b := by simp [inR]
theorem inR_f {x a b : Int} : inR x a b = false ↔ ¬ (a ≤ x ∧ x ≤ b) := by rw [← Bool.not_eq_true, inR_t]
/-- One step of a goal; what is asked on the way is looked for. -/
theorem stp {G G' : Prop} (k : G') (h : G' → G := by first | exact Br.tt | exact Br.ff | exact Br.pos (by assumption) | exact Br.neg (by assumption) | exact Br.bself | exact Br.dself | exact Br.iself | exact Nm.mk lenC | exact Nm.mk (wrapI (by first | omega | (simp [inR_t, inR_f] at *; omega)) (by first | omega | (simp [inR_t, inR_f] at *; omega))) | exact Nm.mk (wrapQ (by first | omega | (simp [inR_t, inR_f] at *; omega)) (by first | omega | (simp [inR_t, inR_f] at *; omega)) (by first | omega | (simp [inR_t, inR_f] at *; omega))) | exact Nm.mk (tmodN (by first | omega | (simp [inR_t, inR_f] at *; omega))) | exact Nm.mk (szS _) | exact Nm.mk (mi_eq _ _) | exact Nm.mk (ma_eq _ _) | exact Rq.mk (by first | (simp [dOwnL, dOwn] <;> fail) | omega | (simp [inR_t, inR_f] at *; omega)) | exact And.intro (orderFast (by kernel_rfl)) | exact And.intro (by kernel_rfl)) : G := h k
theorem stpo {G G' : Prop} (k : G') (h : G' → G := by first | exact Br.tt | exact Br.ff | exact Br.pos (by assumption) | exact Br.neg (by assumption) | exact Br.bself | exact Br.dself | exact Br.iself | exact Nm.mk lenC | exact Nm.mk (wrapI (by omega) (by omega)) | exact Nm.mk (wrapQ (by omega) (by omega) (by omega)) | exact Nm.mk (tmodN (by omega)) | exact Nm.mk (szS _) | exact Nm.mk (mi_eq _ _) | exact Nm.mk (ma_eq _ _) | exact Rq.mk (by omega) | exact And.intro (orderFast (by kernel_rfl)) | exact And.intro (by kernel_rfl)) : G := h k
def cdiv (a b : Int) : Int := if inR a 0 1000000000000 && inR b 1 1000000000000 then (a + b - 1) / b else 0
theorem is112 : FI 112 Tryz.f112 := ⟨⟨Tryz.f112, Tryz.func112, rfl, rfl, rfl, rfl⟩, rfl⟩
set_option maxRecDepth 20000 in
set_option maxHeartbeats 16000000 in
theorem s_l1In (x a b : Int) : FO 112 [I x, I a, I b] [I x, I a, I b] (B (inR x a b)) := by
  refine fok envOk mixed is112 ⟨rfl, rfl, ?_⟩
  (repeat' ((conv => whnf); first | refine stp ?_ | refine Br.mk (fun _ => ?_) (fun _ => ?_) ))
  all_goals (try (refine Vs.Fin.mk (WkR.eq ?_) (.refl _); first | rfl | (simp_all [inR]; done) | (simp_all [inR]; omega) | grind | grind [inR]))
theorem is42 : FI 42 Tryz.f42 := ⟨⟨Tryz.f42, Tryz.func42, rfl, rfl, rfl, rfl⟩, rfl⟩
set_option maxRecDepth 20000 in
set_option maxHeartbeats 16000000 in
theorem i_InRange (x a b : Int) : FO 42 [I x, I a, I b] [I x, I a, I b] (B (inR x a b)) := by
  refine fok envOk mixed is42 ⟨rfl, rfl, ?_⟩
  (repeat' ((conv => whnf); first | refine stp ?_ | refine Br.mk (fun _ => ?_) (fun _ => ?_) ))
  all_goals (try (refine Vs.Fin.mk (WkR.eq ?_) (.refl _); first | rfl | (simp_all [inR]; done) | (simp_all [inR]; omega) | grind | grind [inR]))
theorem is34 : FI 34 Tryz.f34 := ⟨⟨Tryz.f34, Tryz.func34, rfl, rfl, rfl, rfl⟩, rfl⟩
set_option maxRecDepth 20000 in
set_option maxHeartbeats 16000000 in
theorem i_CeilDiv (a b : Int) : FO 34 [I a, I b] [I a, I b] (I (cdiv a b)) := by
  refine fok envOk mixed is34 ⟨rfl, rfl, ?_⟩
  (repeat' ((conv => whnf); first | refine stp ?_ | refine Br.mk (fun _ => ?_) (fun _ => ?_) | refine Cl.mk (i_InRange _ _ _) ?_ | refine Cl.pre (by simp only [shcLL_ints, shcLL_byts, shcLL_strs]; rfl) ?_))
  all_goals (try (refine Vs.Fin.mk (WkR.eq ?_) (.refl _); first | rfl | (simp_all [cdiv, inR_t]; done) | (simp_all [cdiv, inR_t]; omega) | grind | grind [cdiv, inR_t]))
/-- How much is left: a negative rest says that it was too much. -/
def szA (n : Nat) (left : Int) : Int := if (n : Int) ≤ left then left - n else -1
theorem szA_ok {n : Nat} {x : Int} (h : decide (szA n x < 0) = false) (hx : 0 ≤ x) : (n : Int) ≤ x := by
  unfold szA at h
  split at h
  · assumption
  · simp at h
theorem szA_no {n : Nat} {x : Int} (h : decide (szA n x < 0) = true) : szA n x = -1 := by
  unfold szA at *
  split
  · rename_i hx
    rw [if_pos hx] at h
    simp at h
    omega
  · rfl
end Go.Proofs.YtoekfmkbkffciaaGreatDoor
