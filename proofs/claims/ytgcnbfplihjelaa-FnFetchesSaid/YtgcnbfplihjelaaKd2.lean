/- Contracts of functions of the program: no statement of the seat is proved here. Each under the conditions that stand in it. -/
import Derived.Test.YtgcnbfplihjelaaKdx
set_option linter.all false
namespace Go.Proofs.Ytgcnbfplihjelaa
open Go.Vs Go.Proofs
theorem is96Kd2 : FI 96 Try.f96 := ⟨⟨Try.f96, Try.func96, rfl, rfl, rfl, rfl⟩, rfl⟩
set_option maxRecDepth 20000 in
set_option maxHeartbeats 16000000 in
theorem l24Any_d (cs c1 c2 c3 : List AV) (f : Fetc) (b : List UInt8) (v : Int) (k1 : FO 45 [O (.own cs)] [O (.own c1)] (FY f b)) (k2 : FO 59 [O (.own c1), I 14] [O (.own c2), I 14] (I 3)) (k3 : FO 98 [O (.own c2), Is false [-1, 2, 3]] [O (.own c3), Is false [-1, 2, 3]] (I v)) : FO 96 [O (.own cs)] [O (.own c3)] (FY { f with losses := v } b) := by
  refine fok envOk mixed is96Kd2 ⟨rfl, rfl, ?_⟩
  (repeat' ((conv => whnf); first | refine Br.tt ?_ | refine Br.ff ?_ | refine Br.pos (by assumption) ?_ | refine Br.neg (by assumption) ?_ | refine Br.bself ?_ | refine Br.dself ?_ | refine Br.iself ?_ | refine Nm.mk lenC ?_ | refine Nm.mk (wrapI (by (first | omega | (simp [inR_t, inR_f] at *; omega))) (by (first | omega | (simp [inR_t, inR_f] at *; omega)))) ?_ | refine Nm.mk (wrapQ (by (first | omega | (simp [inR_t, inR_f] at *; omega))) (by (first | omega | (simp [inR_t, inR_f] at *; omega))) (by (first | omega | (simp [inR_t, inR_f] at *; omega)))) ?_ | refine Nm.mk (tmodN (by (first | omega | (simp [inR_t, inR_f] at *; omega)))) ?_ | refine Nm.mk (szS _) ?_ | refine Nm.mk (mi_eq _ _) ?_ | refine Nm.mk (ma_eq _ _) ?_ | refine Rq.mk (by first | (simp [dOwnL, dOwn] <;> fail) | (first | omega | (simp [inR_t, inR_f] at *; omega))) ?_ | refine And.intro (orderFast (by kernel_rfl)) ?_ | refine And.intro (by kernel_rfl) ?_ | refine Cl.mk (k1) ?_ | refine Cl.mk (k2) ?_ | refine Cl.eq k3 (by simp only [shcLL, shcL, Vs.shc]; rfl) ?_ | refine Cl.pre (by simp only [shcLL_ints, shcLL_byts, shcLL_strs, Fetc.shcs, Gran.shcs, Mani.shcs, Name.shcs, Read.shcs, Segm.shcs]; rfl) ?_))
  exact Vs.Fin.mk (WkR.refl _) (.refl _)
set_option maxRecDepth 20000 in
set_option maxHeartbeats 16000000 in
theorem l24Any_e (cs c1 c2 : List AV) (f : Fetc) (b : List UInt8) (hz : f.segs.length ≤ 1000) (k1 : FO 45 [O (.own cs)] [O (.own c1)] (FY f b)) (k2 : FO 59 [O (.own c1), I 14] [O (.own c2), I 14] (I 4)) : FO 96 [O (.own cs)] [O (.own c2)] (FY { f with segs := f.segs ++ [⟨[1]⟩] } b) := by
  refine fok envOk mixed is96Kd2 ⟨rfl, rfl, ?_⟩
  (repeat' ((conv => whnf); first | refine Br.tt ?_ | refine Br.ff ?_ | refine Br.pos (by assumption) ?_ | refine Br.neg (by assumption) ?_ | refine Br.bself ?_ | refine Br.dself ?_ | refine Br.iself ?_ | refine Nm.mk lenC ?_ | refine Nm.mk (wrapI (by (first | omega | (simp [inR_t, inR_f] at *; omega))) (by (first | omega | (simp [inR_t, inR_f] at *; omega)))) ?_ | refine Nm.mk (wrapQ (by (first | omega | (simp [inR_t, inR_f] at *; omega))) (by (first | omega | (simp [inR_t, inR_f] at *; omega))) (by (first | omega | (simp [inR_t, inR_f] at *; omega)))) ?_ | refine Nm.mk (tmodN (by (first | omega | (simp [inR_t, inR_f] at *; omega)))) ?_ | refine Nm.mk (szS _) ?_ | refine Nm.mk (mi_eq _ _) ?_ | refine Nm.mk (ma_eq _ _) ?_ | refine Rq.mk (by first | (simp [dOwnL, dOwn] <;> fail) | (first | omega | (simp [inR_t, inR_f] at *; omega))) ?_ | refine And.intro (orderFast (by kernel_rfl)) ?_ | refine And.intro (by kernel_rfl) ?_ | refine Cl.mk (k1) ?_ | refine Cl.mk (k2) ?_ | refine Rq.mk (by simp; omega) ?_ | refine Cl.pre (by simp only [shcLL_ints, shcLL_byts, shcLL_strs, Fetc.shcs, Gran.shcs, Mani.shcs, Name.shcs, Read.shcs, Segm.shcs]; rfl) ?_))
  refine Vs.Fin.mk (WkR.of (.keep (.keep (.keep (.keep (.sl (.inl rfl) (by simp) (by intro el he; obtain ⟨y, _, rfl⟩ := List.mem_map.1 he; rfl) ?_ (.refl _))))))) (.refl _)
  simp only [List.map_append, List.flatten_append]
  exact wkSet.wkApp (.refl _) (.sl1 rfl .nil)
set_option maxRecDepth 20000 in
set_option maxHeartbeats 16000000 in
theorem l24Any_f (cs c1 c2 : List AV) (f : Fetc) (b : List UInt8) (x : Int) (hx : 5 ≤ x) (k1 : FO 45 [O (.own cs)] [O (.own c1)] (FY f b)) (k2 : FO 59 [O (.own c1), I 14] [O (.own c2), I 14] (I x)) : FO 96 [O (.own cs)] [O (.own c2)] (FY f b) := by
  refine fok envOk mixed is96Kd2 ⟨rfl, rfl, ?_⟩
  have f1 : (x == 0) = false := by simp; omega
  have f2 : (x == 1) = false := by simp; omega
  have f3 : (x == 2) = false := by simp; omega
  have f4 : (x == 3) = false := by simp; omega
  have f5 : (x == 4) = false := by simp; omega
  (repeat' ((conv => whnf); first | refine Br.tt ?_ | refine Br.ff ?_ | refine Br.pos (by assumption) ?_ | refine Br.neg (by assumption) ?_ | refine Br.bself ?_ | refine Br.dself ?_ | refine Br.iself ?_ | refine Nm.mk lenC ?_ | refine Nm.mk (wrapI (by (first | omega | (simp [inR_t, inR_f] at *; omega))) (by (first | omega | (simp [inR_t, inR_f] at *; omega)))) ?_ | refine Nm.mk (wrapQ (by (first | omega | (simp [inR_t, inR_f] at *; omega))) (by (first | omega | (simp [inR_t, inR_f] at *; omega))) (by (first | omega | (simp [inR_t, inR_f] at *; omega)))) ?_ | refine Nm.mk (tmodN (by (first | omega | (simp [inR_t, inR_f] at *; omega)))) ?_ | refine Nm.mk (szS _) ?_ | refine Nm.mk (mi_eq _ _) ?_ | refine Nm.mk (ma_eq _ _) ?_ | refine Rq.mk (by first | (simp [dOwnL, dOwn] <;> fail) | (first | omega | (simp [inR_t, inR_f] at *; omega))) ?_ | refine And.intro (orderFast (by kernel_rfl)) ?_ | refine And.intro (by kernel_rfl) ?_ | refine Cl.mk (k1) ?_ | refine Cl.mk (k2) ?_ | refine Cl.pre (by simp only [shcLL_ints, shcLL_byts, shcLL_strs, Fetc.shcs, Gran.shcs, Mani.shcs, Name.shcs, Read.shcs, Segm.shcs]; rfl) ?_))
  exact Vs.Fin.mk (WkR.refl _) (.refl _)
end Go.Proofs.Ytgcnbfplihjelaa
