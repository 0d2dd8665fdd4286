/- Contracts of functions of the program: no statement of the seat is proved here. Each under the conditions that stand in it. -/
import Derived.Test.YteejljpfpnlpaaaFn
set_option linter.all false
namespace Go.Proofs.Yteejljpfpnlpaaa
open Go.Vs Go.Proofs
theorem is7 : FI 7 Try.f7 := ⟨⟨Try.f7, Try.func7, rfl, rfl, rfl, rfl⟩, rfl⟩
set_option maxRecDepth 20000 in
set_option maxHeartbeats 2000000 in
theorem exManifestName (n : Name) (hf_n : Name.fits n) : FO 7 [A (Name.c false n)] [A (Name.c false n)] (B true) := by
  refine fok envOk mixed is7 ⟨rfl, rfl, ?_⟩
  refine Cl.mk (szName n (1048576) (by omega) hf_n) ?_
  (conv => whnf)
  refine Br.dec (fun h => ?_) (fun h => ?_)
  · (repeat' ((conv => whnf); first | refine Br.tt ?_ | refine Br.ff ?_ | refine Br.pos (by assumption) ?_ | refine Br.neg (by assumption) ?_ | refine Br.bself ?_ | refine Br.dself ?_ | refine Br.iself ?_ | refine Br.mk (fun _ => ?_) (fun _ => ?_) | refine Nm.mk lenC ?_ | refine Nm.mk (wrapI (by (first | omega | (simp [inR_t, inR_f] at *; omega))) (by (first | omega | (simp [inR_t, inR_f] at *; omega)))) ?_ | refine Nm.mk (wrapQ (by (first | omega | (simp [inR_t, inR_f] at *; omega))) (by (first | omega | (simp [inR_t, inR_f] at *; omega))) (by (first | omega | (simp [inR_t, inR_f] at *; omega)))) ?_ | refine Nm.mk (tmodN (by (first | omega | (simp [inR_t, inR_f] at *; omega)))) ?_ | refine Nm.mk (szS _) ?_ | refine Nm.mk (mi_eq _ _) ?_ | refine Nm.mk (ma_eq _ _) ?_ | refine Rq.mk (by first | (simp [dOwnL, dOwn] <;> fail) | (first | omega | (simp [inR_t, inR_f] at *; omega))) ?_ | refine And.intro (by kernel_rfl) ?_ ))
    exact ⟨WkR.refl _, .refl _⟩
  have hz0 := szA_nn h (by omega)
  have hy0 := szA_le hz0
  have hs_n : Name.size n ≤ 1048576 := by omega
  have hr0 := apZero_size (s := plan) hs_n (by decide)
  (repeat' ((conv => whnf); first | refine Br.tt ?_ | refine Br.ff ?_ | refine Br.pos (by assumption) ?_ | refine Br.neg (by assumption) ?_ | refine Br.bself ?_ | refine Br.dself ?_ | refine Br.iself ?_ | refine Br.neg (by simp; omega) ?_ | refine Nm.mk lenC ?_ | refine Nm.mk (wrapI (by (first | omega | (simp [inR_t, inR_f] at *; omega))) (by (first | omega | (simp [inR_t, inR_f] at *; omega)))) ?_ | refine Nm.mk (wrapQ (by (first | omega | (simp [inR_t, inR_f] at *; omega))) (by (first | omega | (simp [inR_t, inR_f] at *; omega))) (by (first | omega | (simp [inR_t, inR_f] at *; omega)))) ?_ | refine Nm.mk (tmodN (by (first | omega | (simp [inR_t, inR_f] at *; omega)))) ?_ | refine Nm.mk (szS _) ?_ | refine Nm.mk (mi_eq _ _) ?_ | refine Nm.mk (ma_eq _ _) ?_ | refine Rq.mk (by first | (simp [dOwnL, dOwn] <;> fail) | (first | omega | (simp [inR_t, inR_f] at *; omega))) ?_ | refine And.intro (by kernel_rfl) ?_ | refine Cl.mk (toName n (by omega)) ?_ | refine Cl.mk (s_ManifestName n hs_n) ?_ | refine Cl.mk (i_ManifestName n hs_n) ?_ | refine Cl.mk (eqName (apZero n plan) (apZero n plan) (by omega)) ?_ | refine Cl.mk (eqName n n (by omega)) ?_ | refine Cl.mk (markName n (1) (by omega) (by have := Name.cntv_le n; omega) (by omega)) ?_ | refine Cl.mk (markName (apZero n plan) (1) (by omega) (by have := Name.cntv_le (apZero n plan); omega) (by omega)) ?_ | refine Cl.mk (heldName (apZero n plan) (1) (by omega) (by have := Name.cntv_le (apZero n plan); omega) (by omega)) ?_ | refine Cl.pre (by simp only [shcLL_ints, shcLL_byts, shcLL_strs, Mani.shcs, Name.shcs, Segm.shcs]; rfl) ?_))
  all_goals exact ⟨WkR.refl _, .refl _⟩
end Go.Proofs.Yteejljpfpnlpaaa
