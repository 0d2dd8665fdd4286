/- Contracts of functions of the program: no statement of the seat is proved here. Each under the conditions that stand in it. -/
import Derived.Test.YtnclkamgdcaboaaFw
import Derived.Test.YtnclkamgdcaboaaFx
import Derived.Test.YtnclkamgdcaboaaFz
set_option linter.all false
namespace Go.Proofs.Ytnclkamgdcaboaa
open Go.Vs Go.Proofs
theorem is7 : FI 7 Try.f7 := ⟨⟨Try.f7, Try.func7, rfl, rfl, rfl, rfl⟩, rfl⟩
set_option maxRecDepth 20000 in
set_option maxHeartbeats 16000000 in
theorem exSegmentReceived (f : Fetc) (hf_f : Fetc.fits f) (hg_f : Fetc.rng f) (i : Int) (hf_i : -9223372036854775808 ≤ i ∧ i ≤ 9223372036854775807) (b : List UInt8) (hf_b : b.length ≤ 9223372036854775807) : FO 7 [A (Fetc.c false f), I i, O (cYs false b)] [A (Fetc.c false f), I i, O (cYs false b)] (B true) := by
  refine fok envOk mixed is7 ⟨rfl, rfl, ?_⟩
  refine Nm.mk lenC ?_
  refine Br.dec (fun h => ?_) (fun h => ?_)
  · (repeat' ((conv => whnf); first | refine Br.tt ?_ | refine Br.ff ?_ | refine Br.pos (by assumption) ?_ | refine Br.neg (by assumption) ?_ | refine Br.bself ?_ | refine Br.dself ?_ | refine Br.iself ?_ | refine Br.mk (fun _ => ?_) (fun _ => ?_) | refine Nm.mk lenC ?_ | refine Nm.mk (wrapI (by (first | omega | (simp [inR_t, inR_f] at *; omega))) (by (first | omega | (simp [inR_t, inR_f] at *; omega)))) ?_ | refine Nm.mk (wrapQ (by (first | omega | (simp [inR_t, inR_f] at *; omega))) (by (first | omega | (simp [inR_t, inR_f] at *; omega))) (by (first | omega | (simp [inR_t, inR_f] at *; omega)))) ?_ | refine Nm.mk (tmodN (by (first | omega | (simp [inR_t, inR_f] at *; omega)))) ?_ | refine Nm.mk (szS _) ?_ | refine Nm.mk (mi_eq _ _) ?_ | refine Nm.mk (ma_eq _ _) ?_ | refine Rq.mk (by first | (simp [dOwnL, dOwn] <;> fail) | (first | omega | (simp [inR_t, inR_f] at *; omega))) ?_ | refine And.intro (orderFast (by kernel_rfl)) ?_ | refine And.intro (by kernel_rfl) ?_ ))
    exact ⟨WkR.refl _, .refl _⟩
  have hs_b : b.length ≤ 1048576 := by omega
  refine Cl.mk (szFetcher f (1048576) (by omega) hf_f) ?_
  (conv => whnf)
  refine Br.dec (fun h => ?_) (fun h => ?_)
  · (repeat' ((conv => whnf); first | refine Br.tt ?_ | refine Br.ff ?_ | refine Br.pos (by assumption) ?_ | refine Br.neg (by assumption) ?_ | refine Br.bself ?_ | refine Br.dself ?_ | refine Br.iself ?_ | refine Br.mk (fun _ => ?_) (fun _ => ?_) | refine Nm.mk lenC ?_ | refine Nm.mk (wrapI (by (first | omega | (simp [inR_t, inR_f] at *; omega))) (by (first | omega | (simp [inR_t, inR_f] at *; omega)))) ?_ | refine Nm.mk (wrapQ (by (first | omega | (simp [inR_t, inR_f] at *; omega))) (by (first | omega | (simp [inR_t, inR_f] at *; omega))) (by (first | omega | (simp [inR_t, inR_f] at *; omega)))) ?_ | refine Nm.mk (tmodN (by (first | omega | (simp [inR_t, inR_f] at *; omega)))) ?_ | refine Nm.mk (szS _) ?_ | refine Nm.mk (mi_eq _ _) ?_ | refine Nm.mk (ma_eq _ _) ?_ | refine Rq.mk (by first | (simp [dOwnL, dOwn] <;> fail) | (first | omega | (simp [inR_t, inR_f] at *; omega))) ?_ | refine And.intro (orderFast (by kernel_rfl)) ?_ | refine And.intro (by kernel_rfl) ?_ ))
    exact ⟨WkR.refl _, .refl _⟩
  have hz0 := szA_nn h (by omega)
  have hy0 := szA_le hz0
  have hs_f : Fetc.size f ≤ 1048576 := by omega
  have hc_f := Fetc.cntv_le f
  have hr0 := rcvF_size (i := i) hs_f hs_b
  (repeat' ((conv => whnf); first | refine Br.tt ?_ | refine Br.ff ?_ | refine Br.pos (by assumption) ?_ | refine Br.neg (by assumption) ?_ | refine Br.bself ?_ | refine Br.dself ?_ | refine Br.iself ?_ | refine Br.neg (by simp; omega) ?_ | refine Nm.mk lenC ?_ | refine Nm.mk (wrapI (by (first | omega | (simp [inR_t, inR_f] at *; omega))) (by (first | omega | (simp [inR_t, inR_f] at *; omega)))) ?_ | refine Nm.mk (wrapQ (by (first | omega | (simp [inR_t, inR_f] at *; omega))) (by (first | omega | (simp [inR_t, inR_f] at *; omega))) (by (first | omega | (simp [inR_t, inR_f] at *; omega)))) ?_ | refine Nm.mk (tmodN (by (first | omega | (simp [inR_t, inR_f] at *; omega)))) ?_ | refine Nm.mk (szS _) ?_ | refine Nm.mk (mi_eq _ _) ?_ | refine Nm.mk (ma_eq _ _) ?_ | refine Rq.mk (by first | (simp [dOwnL, dOwn] <;> fail) | (first | omega | (simp [inR_t, inR_f] at *; omega))) ?_ | refine And.intro (orderFast (by kernel_rfl)) ?_ | refine And.intro (by kernel_rfl) ?_ | refine Cl.mk (toFetcher f (by omega)) ?_ | refine Cl.mk (toByteS b (by omega)) ?_ | refine Cl.mk (s_SegmentReceived f i b hg_f hs_f hs_b) ?_ | refine Cl.mk (i_SegmentReceived f i b hg_f hs_f hs_b) ?_ | refine Cl.mk (eqFetcher (rcvF f i b) (rcvF f i b) (by omega)) ?_ | refine Cl.mk (eqFetcher f f (by omega)) ?_ | refine Cl.mk (eqByteS b b (by omega)) ?_ | refine Cl.mk (markFetcher f (1) (by omega) (by have := Fetc.cntv_le f; omega) (by omega)) ?_ | refine Cl.mk (markByteS b (1 + (Fetc.cntv f : Nat)) (by omega) (by omega)) ?_ | refine Cl.mk (markFetcher (rcvF f i b) (1) (by omega) (by have := Fetc.cntv_le (rcvF f i b); omega) (by omega)) ?_ | refine Cl.mk (heldFetcher (rcvF f i b) (1) (by omega) (by have := Fetc.cntv_le (rcvF f i b); omega) (by omega)) ?_ | refine Cl.pre (by simp only [shcLL_ints, shcLL_byts, shcLL_strs, Fetc.shcs, Mani.shcs, Name.shcs, Segm.shcs]; rfl) ?_))
  all_goals exact ⟨WkR.refl _, .refl _⟩
end Go.Proofs.Ytnclkamgdcaboaa
