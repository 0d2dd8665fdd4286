/- Contracts of functions of the program: no statement of the seat is proved here. Each under the conditions that stand in it. -/
import Derived.Test.YtoheiodpkjdlcaaEnv
set_option linter.all false
namespace Go.Proofs.Ytoheiodpkjdlcaa
open Go.Vs Go.Proofs
def inR (x a b : Int) : Bool := decide (a ≤ x) && decide (x ≤ b)
theorem inR_t {x a b : Int} : inR x a b = true ↔ a ≤ x ∧ x ≤ b := by simp [inR]
theorem inR_f {x a b : Int} : inR x a b = false ↔ ¬ (a ≤ x ∧ x ≤ b) := by rw [← Bool.not_eq_true, inR_t]
def cdiv (a b : Int) : Int := if inR a 0 1000000000000 && inR b 1 1000000000000 then (a + b - 1) / b else 0
theorem is41 : FI 41 Try.f41 := ⟨⟨Try.f41, Try.func41, rfl, rfl, rfl, rfl⟩, rfl⟩
set_option maxRecDepth 20000 in
set_option maxHeartbeats 16000000 in
theorem s_l1In (x a b : Int) : FO 41 [I x, I a, I b] [I x, I a, I b] (B (inR x a b)) := by
  refine fok envOk mixed is41 ⟨rfl, rfl, ?_⟩
  (repeat' ((conv => whnf); first | refine Br.tt ?_ | refine Br.ff ?_ | refine Br.pos (by assumption) ?_ | refine Br.neg (by assumption) ?_ | refine Br.bself ?_ | refine Br.dself ?_ | refine Br.iself ?_ | refine Br.mk (fun _ => ?_) (fun _ => ?_) | refine Nm.mk lenC ?_ | refine Nm.mk (wrapI (by (first | omega | (simp [inR_t, inR_f] at *; omega))) (by (first | omega | (simp [inR_t, inR_f] at *; omega)))) ?_ | refine Nm.mk (wrapQ (by (first | omega | (simp [inR_t, inR_f] at *; omega))) (by (first | omega | (simp [inR_t, inR_f] at *; omega))) (by (first | omega | (simp [inR_t, inR_f] at *; omega)))) ?_ | refine Nm.mk (tmodN (by (first | omega | (simp [inR_t, inR_f] at *; omega)))) ?_ | refine Nm.mk (szS _) ?_ | refine Nm.mk (mi_eq _ _) ?_ | refine Nm.mk (ma_eq _ _) ?_ | refine Rq.mk (by first | (simp [dOwnL, dOwn] <;> fail) | (first | omega | (simp [inR_t, inR_f] at *; omega))) ?_ | refine And.intro (orderFast (by kernel_rfl)) ?_ | refine And.intro (by kernel_rfl) ?_ ))
  all_goals (try (refine Vs.Fin.mk (WkR.eq ?_) (.refl _); first | rfl | (simp_all [inR]; done) | (simp_all [inR]; omega) | grind | grind [inR]))
theorem is40 : FI 40 Try.f40 := ⟨⟨Try.f40, Try.func40, rfl, rfl, rfl, rfl⟩, rfl⟩
set_option maxRecDepth 20000 in
set_option maxHeartbeats 16000000 in
theorem i_InRange (x a b : Int) : FO 40 [I x, I a, I b] [I x, I a, I b] (B (inR x a b)) := by
  refine fok envOk mixed is40 ⟨rfl, rfl, ?_⟩
  (repeat' ((conv => whnf); first | refine Br.tt ?_ | refine Br.ff ?_ | refine Br.pos (by assumption) ?_ | refine Br.neg (by assumption) ?_ | refine Br.bself ?_ | refine Br.dself ?_ | refine Br.iself ?_ | refine Br.mk (fun _ => ?_) (fun _ => ?_) | refine Nm.mk lenC ?_ | refine Nm.mk (wrapI (by (first | omega | (simp [inR_t, inR_f] at *; omega))) (by (first | omega | (simp [inR_t, inR_f] at *; omega)))) ?_ | refine Nm.mk (wrapQ (by (first | omega | (simp [inR_t, inR_f] at *; omega))) (by (first | omega | (simp [inR_t, inR_f] at *; omega))) (by (first | omega | (simp [inR_t, inR_f] at *; omega)))) ?_ | refine Nm.mk (tmodN (by (first | omega | (simp [inR_t, inR_f] at *; omega)))) ?_ | refine Nm.mk (szS _) ?_ | refine Nm.mk (mi_eq _ _) ?_ | refine Nm.mk (ma_eq _ _) ?_ | refine Rq.mk (by first | (simp [dOwnL, dOwn] <;> fail) | (first | omega | (simp [inR_t, inR_f] at *; omega))) ?_ | refine And.intro (orderFast (by kernel_rfl)) ?_ | refine And.intro (by kernel_rfl) ?_ ))
  all_goals (try (refine Vs.Fin.mk (WkR.eq ?_) (.refl _); first | rfl | (simp_all [inR]; done) | (simp_all [inR]; omega) | grind | grind [inR]))
/-- How much is left: a negative rest says that it was too much. -/
def szA (n : Nat) (left : Int) : Int := if (n : Int) ≤ left then left - n else -1
theorem szA_ok {n : Nat} {x : Int} (h : decide (szA n x < 0) = false) (hx : 0 ≤ x) : (n : Int) ≤ x := by
  unfold szA at h
  split at h
  · assumption
  · simp at h
theorem szA_no {n : Nat} {x : Int} (h : decide (szA n x < 0) = true) : szA n x = -1 := by
  unfold szA at *
  split
  · rename_i hx
    rw [if_pos hx] at h
    simp at h
    omega
  · rfl
theorem is62 : FI 62 Try.f62 := ⟨⟨Try.f62, Try.func62, rfl, rfl, rfl, rfl⟩, rfl⟩
set_option maxRecDepth 20000 in
set_option maxHeartbeats 16000000 in
theorem szIntS (l : List Int) (x : Int) (hx : 0 ≤ x ∧ x ≤ 1048576) (hl : l.length ≤ 9223372036854775807) : FO 62 [Is false l, I x] [Is false l, I x] (I (szA l.length x)) := by
  refine fok envOk mixed is62 ⟨rfl, rfl, ?_⟩
  (repeat' ((conv => whnf); first | refine Br.tt ?_ | refine Br.ff ?_ | refine Br.pos (by assumption) ?_ | refine Br.neg (by assumption) ?_ | refine Br.bself ?_ | refine Br.dself ?_ | refine Br.iself ?_ | refine Br.mk (fun _ => ?_) (fun _ => ?_) | refine Nm.mk lenC ?_ | refine Nm.mk (wrapI (by (first | omega | (simp [inR_t, inR_f] at *; omega))) (by (first | omega | (simp [inR_t, inR_f] at *; omega)))) ?_ | refine Nm.mk (wrapQ (by (first | omega | (simp [inR_t, inR_f] at *; omega))) (by (first | omega | (simp [inR_t, inR_f] at *; omega))) (by (first | omega | (simp [inR_t, inR_f] at *; omega)))) ?_ | refine Nm.mk (tmodN (by (first | omega | (simp [inR_t, inR_f] at *; omega)))) ?_ | refine Nm.mk (szS _) ?_ | refine Nm.mk (mi_eq _ _) ?_ | refine Nm.mk (ma_eq _ _) ?_ | refine Rq.mk (by first | (simp [dOwnL, dOwn] <;> fail) | (first | omega | (simp [inR_t, inR_f] at *; omega))) ?_ | refine And.intro (orderFast (by kernel_rfl)) ?_ | refine And.intro (by kernel_rfl) ?_ ))
  all_goals (try (refine Vs.Fin.mk (WkR.eq ?_) (.refl _); first | rfl | (simp_all [szA]; done) | (simp_all [szA]; omega) | grind | grind [szA]))
end Go.Proofs.Ytoheiodpkjdlcaa
