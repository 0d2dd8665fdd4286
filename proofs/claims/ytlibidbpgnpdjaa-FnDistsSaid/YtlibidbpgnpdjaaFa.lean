/- Contracts of functions of the program: no statement of the seat is proved here. Each under the conditions that stand in it. -/
import Derived.Test.YtlibidbpgnpdjaaEnv
set_option linter.all false
namespace Go.Proofs.Ytlibidbpgnpdjaa
open Go.Vs Go.Proofs
def inR (x a b : Int) : Bool := decide (a ≤ x) && decide (x ≤ b)
theorem inR_t {x a b : Int} : inR x a b = true ↔ a ≤ x ∧ x ≤ b := by simp [inR]
theorem inR_f {x a b : Int} : inR x a b = false ↔ ¬ (a ≤ x ∧ x ≤ b) := by rw [← Bool.not_eq_true, inR_t]
def cdiv (a b : Int) : Int := if inR a 0 1000000000000 && inR b 1 1000000000000 then (a + b - 1) / b else 0
theorem is44 : FI 44 Try.f44 := ⟨⟨Try.f44, Try.func44, rfl, rfl, rfl, rfl⟩, rfl⟩
set_option maxRecDepth 20000 in
set_option maxHeartbeats 16000000 in
theorem s_l1In (x a b : Int) : FO 44 [I x, I a, I b] [I x, I a, I b] (B (inR x a b)) := by
  refine fok envOk mixed is44 ⟨rfl, rfl, ?_⟩
  (repeat' ((conv => whnf); first | refine Br.tt ?_ | refine Br.ff ?_ | refine Br.pos (by assumption) ?_ | refine Br.neg (by assumption) ?_ | refine Br.bself ?_ | refine Br.dself ?_ | refine Br.iself ?_ | refine Br.mk (fun _ => ?_) (fun _ => ?_) | refine Nm.mk lenC ?_ | refine Nm.mk (wrapI (by (first | omega | (simp [inR_t, inR_f] at *; omega))) (by (first | omega | (simp [inR_t, inR_f] at *; omega)))) ?_ | refine Nm.mk (wrapQ (by (first | omega | (simp [inR_t, inR_f] at *; omega))) (by (first | omega | (simp [inR_t, inR_f] at *; omega))) (by (first | omega | (simp [inR_t, inR_f] at *; omega)))) ?_ | refine Nm.mk (tmodN (by (first | omega | (simp [inR_t, inR_f] at *; omega)))) ?_ | refine Nm.mk (szS _) ?_ | refine Nm.mk (mi_eq _ _) ?_ | refine Nm.mk (ma_eq _ _) ?_ | refine Rq.mk (by first | (simp [dOwnL, dOwn] <;> fail) | (first | omega | (simp [inR_t, inR_f] at *; omega))) ?_ | refine And.intro (orderFast (by kernel_rfl)) ?_ | refine And.intro (by kernel_rfl) ?_ ))
  all_goals (try (refine Vs.Fin.mk (WkR.eq ?_) (.refl _); first | rfl | (simp_all [inR]; done) | (simp_all [inR]; omega) | grind | grind [inR]))
theorem is43 : FI 43 Try.f43 := ⟨⟨Try.f43, Try.func43, rfl, rfl, rfl, rfl⟩, rfl⟩
set_option maxRecDepth 20000 in
set_option maxHeartbeats 16000000 in
theorem i_InRange (x a b : Int) : FO 43 [I x, I a, I b] [I x, I a, I b] (B (inR x a b)) := by
  refine fok envOk mixed is43 ⟨rfl, rfl, ?_⟩
  (repeat' ((conv => whnf); first | refine Br.tt ?_ | refine Br.ff ?_ | refine Br.pos (by assumption) ?_ | refine Br.neg (by assumption) ?_ | refine Br.bself ?_ | refine Br.dself ?_ | refine Br.iself ?_ | refine Br.mk (fun _ => ?_) (fun _ => ?_) | refine Nm.mk lenC ?_ | refine Nm.mk (wrapI (by (first | omega | (simp [inR_t, inR_f] at *; omega))) (by (first | omega | (simp [inR_t, inR_f] at *; omega)))) ?_ | refine Nm.mk (wrapQ (by (first | omega | (simp [inR_t, inR_f] at *; omega))) (by (first | omega | (simp [inR_t, inR_f] at *; omega))) (by (first | omega | (simp [inR_t, inR_f] at *; omega)))) ?_ | refine Nm.mk (tmodN (by (first | omega | (simp [inR_t, inR_f] at *; omega)))) ?_ | refine Nm.mk (szS _) ?_ | refine Nm.mk (mi_eq _ _) ?_ | refine Nm.mk (ma_eq _ _) ?_ | refine Rq.mk (by first | (simp [dOwnL, dOwn] <;> fail) | (first | omega | (simp [inR_t, inR_f] at *; omega))) ?_ | refine And.intro (orderFast (by kernel_rfl)) ?_ | refine And.intro (by kernel_rfl) ?_ ))
  all_goals (try (refine Vs.Fin.mk (WkR.eq ?_) (.refl _); first | rfl | (simp_all [inR]; done) | (simp_all [inR]; omega) | grind | grind [inR]))
/-- How much is left: a negative rest says that it was too much. -/
def szA (n : Nat) (left : Int) : Int := if (n : Int) ≤ left then left - n else -1
theorem szA_ok {n : Nat} {x : Int} (h : decide (szA n x < 0) = false) (hx : 0 ≤ x) : (n : Int) ≤ x := by
  unfold szA at h
  split at h
  · assumption
  · simp at h
theorem szA_no {n : Nat} {x : Int} (h : decide (szA n x < 0) = true) : szA n x = -1 := by
  unfold szA at *
  split
  · rename_i hx
    rw [if_pos hx] at h
    simp at h
    omega
  · rfl
end Go.Proofs.Ytlibidbpgnpdjaa
