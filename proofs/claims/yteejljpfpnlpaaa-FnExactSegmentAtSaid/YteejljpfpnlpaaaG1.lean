/- Contracts of functions of the program: no statement of the seat is proved here. Each under the conditions that stand in it. -/
import Derived.Test.YteejljpfpnlpaaaFm
import Derived.Test.YteejljpfpnlpaaaFe
set_option linter.all false
namespace Go.Proofs.Yteejljpfpnlpaaa
open Go.Vs Go.Proofs
theorem is3 : FI 3 Try.f3 := ⟨⟨Try.f3, Try.func3, rfl, rfl, rfl, rfl⟩, rfl⟩
set_option maxRecDepth 20000 in
set_option maxHeartbeats 2000000 in
theorem exValidManifest (p : Mani) (hf_p : Mani.fits p) : FO 3 [A (Mani.c false p)] [A (Mani.c false p)] (B true) := by
  refine fok envOk mixed is3 ⟨rfl, rfl, ?_⟩
  refine Cl.mk (szManifest p (1048576) (by omega) hf_p) ?_
  (conv => whnf)
  refine Br.dec (fun h => ?_) (fun h => ?_)
  · (repeat' ((conv => whnf); first | refine Br.tt ?_ | refine Br.ff ?_ | refine Br.pos (by assumption) ?_ | refine Br.neg (by assumption) ?_ | refine Br.bself ?_ | refine Br.dself ?_ | refine Br.iself ?_ | refine Br.mk (fun _ => ?_) (fun _ => ?_) | refine Nm.mk lenC ?_ | refine Nm.mk (wrapI (by (first | omega | (simp [inR_t, inR_f] at *; omega))) (by (first | omega | (simp [inR_t, inR_f] at *; omega)))) ?_ | refine Nm.mk (wrapQ (by (first | omega | (simp [inR_t, inR_f] at *; omega))) (by (first | omega | (simp [inR_t, inR_f] at *; omega))) (by (first | omega | (simp [inR_t, inR_f] at *; omega)))) ?_ | refine Nm.mk (tmodN (by (first | omega | (simp [inR_t, inR_f] at *; omega)))) ?_ | refine Nm.mk (mi_eq _ _) ?_ | refine Nm.mk (ma_eq _ _) ?_ | refine Rq.mk (by first | (simp [dOwnL, dOwn] <;> fail) | (first | omega | (simp [inR_t, inR_f] at *; omega))) ?_ | refine And.intro (by kernel_rfl) ?_ ))
    exact ⟨WkR.refl _, .refl _⟩
  have hz0 := szA_nn h (by omega)
  have hy0 := szA_le hz0
  have hs_p : Mani.size p ≤ 1048576 := by omega
  (repeat' ((conv => whnf); first | refine Br.tt ?_ | refine Br.ff ?_ | refine Br.pos (by assumption) ?_ | refine Br.neg (by assumption) ?_ | refine Br.bself ?_ | refine Br.dself ?_ | refine Br.iself ?_ | refine Br.neg (by simp; omega) ?_ | refine Nm.mk lenC ?_ | refine Nm.mk (wrapI (by (first | omega | (simp [inR_t, inR_f] at *; omega))) (by (first | omega | (simp [inR_t, inR_f] at *; omega)))) ?_ | refine Nm.mk (wrapQ (by (first | omega | (simp [inR_t, inR_f] at *; omega))) (by (first | omega | (simp [inR_t, inR_f] at *; omega))) (by (first | omega | (simp [inR_t, inR_f] at *; omega)))) ?_ | refine Nm.mk (tmodN (by (first | omega | (simp [inR_t, inR_f] at *; omega)))) ?_ | refine Nm.mk (mi_eq _ _) ?_ | refine Nm.mk (ma_eq _ _) ?_ | refine Rq.mk (by first | (simp [dOwnL, dOwn] <;> fail) | (first | omega | (simp [inR_t, inR_f] at *; omega))) ?_ | refine And.intro (by kernel_rfl) ?_ | refine Cl.mk (toManifest p (by omega)) ?_ | refine Cl.mk (s_ValidManifest p hs_p) ?_ | refine Cl.mk (i_ValidManifest p hs_p) ?_ | refine Cl.mk (eqManifest p p (by omega)) ?_ | refine Cl.mk (markManifest p (1) (by omega) (by have := Mani.cntv_le p; omega) (by omega)) ?_ | refine Cl.pre (by simp only [shcLL_ints, shcLL_byts, shcLL_strs, Fetc.shcs, Mani.shcs, Name.shcs, Segm.shcs]; rfl) ?_))
  all_goals exact ⟨WkR.refl _, .refl _⟩
theorem is4 : FI 4 Try.f4 := ⟨⟨Try.f4, Try.func4, rfl, rfl, rfl, rfl⟩, rfl⟩
set_option maxRecDepth 20000 in
set_option maxHeartbeats 2000000 in
theorem exMakeManifest (b : List UInt8) (hf_b : b.length ≤ 9223372036854775807) (z : Int) (hf_z : -9223372036854775808 ≤ z ∧ z ≤ 9223372036854775807) : FO 4 [O (cYs false b), I z] [O (cYs false b), I z] (B true) := by
  refine fok envOk mixed is4 ⟨rfl, rfl, ?_⟩
  refine Nm.mk lenC ?_
  refine Br.dec (fun h => ?_) (fun h => ?_)
  · (repeat' ((conv => whnf); first | refine Br.tt ?_ | refine Br.ff ?_ | refine Br.pos (by assumption) ?_ | refine Br.neg (by assumption) ?_ | refine Br.bself ?_ | refine Br.dself ?_ | refine Br.iself ?_ | refine Br.mk (fun _ => ?_) (fun _ => ?_) | refine Nm.mk lenC ?_ | refine Nm.mk (wrapI (by (first | omega | (simp [inR_t, inR_f] at *; omega))) (by (first | omega | (simp [inR_t, inR_f] at *; omega)))) ?_ | refine Nm.mk (wrapQ (by (first | omega | (simp [inR_t, inR_f] at *; omega))) (by (first | omega | (simp [inR_t, inR_f] at *; omega))) (by (first | omega | (simp [inR_t, inR_f] at *; omega)))) ?_ | refine Nm.mk (tmodN (by (first | omega | (simp [inR_t, inR_f] at *; omega)))) ?_ | refine Nm.mk (mi_eq _ _) ?_ | refine Nm.mk (ma_eq _ _) ?_ | refine Rq.mk (by first | (simp [dOwnL, dOwn] <;> fail) | (first | omega | (simp [inR_t, inR_f] at *; omega))) ?_ | refine And.intro (by kernel_rfl) ?_ ))
    exact ⟨WkR.refl _, .refl _⟩
  have hs_b : b.length ≤ 1048576 := by omega
  have hr0 := mkMani_size (z := z) hs_b
  (repeat' ((conv => whnf); first | refine Br.tt ?_ | refine Br.ff ?_ | refine Br.pos (by assumption) ?_ | refine Br.neg (by assumption) ?_ | refine Br.bself ?_ | refine Br.dself ?_ | refine Br.iself ?_ | refine Br.neg (by simp; omega) ?_ | refine Nm.mk lenC ?_ | refine Nm.mk (wrapI (by (first | omega | (simp [inR_t, inR_f] at *; omega))) (by (first | omega | (simp [inR_t, inR_f] at *; omega)))) ?_ | refine Nm.mk (wrapQ (by (first | omega | (simp [inR_t, inR_f] at *; omega))) (by (first | omega | (simp [inR_t, inR_f] at *; omega))) (by (first | omega | (simp [inR_t, inR_f] at *; omega)))) ?_ | refine Nm.mk (tmodN (by (first | omega | (simp [inR_t, inR_f] at *; omega)))) ?_ | refine Nm.mk (mi_eq _ _) ?_ | refine Nm.mk (ma_eq _ _) ?_ | refine Rq.mk (by first | (simp [dOwnL, dOwn] <;> fail) | (first | omega | (simp [inR_t, inR_f] at *; omega))) ?_ | refine And.intro (by kernel_rfl) ?_ | refine Cl.mk (toByteS b (by omega)) ?_ | refine Cl.mk (s_MakeManifest b z hs_b) ?_ | refine Cl.mk (i_MakeManifest b z hs_b) ?_ | refine Cl.mk (eqManifest (mkMani b z) (mkMani b z) (by omega)) ?_ | refine Cl.mk (eqByteS b b (by omega)) ?_ | refine Cl.mk (markByteS b (1) (by omega) (by omega)) ?_ | refine Cl.mk (markManifest (mkMani b z) (1) (by omega) (by have := Mani.cntv_le (mkMani b z); omega) (by omega)) ?_ | refine Cl.mk (heldManifest (mkMani b z) (1) (by omega) (by have := Mani.cntv_le (mkMani b z); omega) (by omega)) ?_ | refine Cl.pre (by simp only [shcLL_ints, shcLL_byts, shcLL_strs, Fetc.shcs, Mani.shcs, Name.shcs, Segm.shcs]; rfl) ?_))
  all_goals exact ⟨WkR.refl _, .refl _⟩
theorem is5 : FI 5 Try.f5 := ⟨⟨Try.f5, Try.func5, rfl, rfl, rfl, rfl⟩, rfl⟩
set_option maxRecDepth 20000 in
set_option maxHeartbeats 2000000 in
theorem exVerifySegment (p : Mani) (hf_p : Mani.fits p) (i : Int) (hf_i : -9223372036854775808 ≤ i ∧ i ≤ 9223372036854775807) (b : List UInt8) (hf_b : b.length ≤ 9223372036854775807) : FO 5 [A (Mani.c false p), I i, O (cYs false b)] [A (Mani.c false p), I i, O (cYs false b)] (B true) := by
  refine fok envOk mixed is5 ⟨rfl, rfl, ?_⟩
  refine Nm.mk lenC ?_
  refine Br.dec (fun h => ?_) (fun h => ?_)
  · (repeat' ((conv => whnf); first | refine Br.tt ?_ | refine Br.ff ?_ | refine Br.pos (by assumption) ?_ | refine Br.neg (by assumption) ?_ | refine Br.bself ?_ | refine Br.dself ?_ | refine Br.iself ?_ | refine Br.mk (fun _ => ?_) (fun _ => ?_) | refine Nm.mk lenC ?_ | refine Nm.mk (wrapI (by (first | omega | (simp [inR_t, inR_f] at *; omega))) (by (first | omega | (simp [inR_t, inR_f] at *; omega)))) ?_ | refine Nm.mk (wrapQ (by (first | omega | (simp [inR_t, inR_f] at *; omega))) (by (first | omega | (simp [inR_t, inR_f] at *; omega))) (by (first | omega | (simp [inR_t, inR_f] at *; omega)))) ?_ | refine Nm.mk (tmodN (by (first | omega | (simp [inR_t, inR_f] at *; omega)))) ?_ | refine Nm.mk (mi_eq _ _) ?_ | refine Nm.mk (ma_eq _ _) ?_ | refine Rq.mk (by first | (simp [dOwnL, dOwn] <;> fail) | (first | omega | (simp [inR_t, inR_f] at *; omega))) ?_ | refine And.intro (by kernel_rfl) ?_ ))
    exact ⟨WkR.refl _, .refl _⟩
  have hs_b : b.length ≤ 1048576 := by omega
  refine Cl.mk (szManifest p (1048576) (by omega) hf_p) ?_
  (conv => whnf)
  refine Br.dec (fun h => ?_) (fun h => ?_)
  · (repeat' ((conv => whnf); first | refine Br.tt ?_ | refine Br.ff ?_ | refine Br.pos (by assumption) ?_ | refine Br.neg (by assumption) ?_ | refine Br.bself ?_ | refine Br.dself ?_ | refine Br.iself ?_ | refine Br.mk (fun _ => ?_) (fun _ => ?_) | refine Nm.mk lenC ?_ | refine Nm.mk (wrapI (by (first | omega | (simp [inR_t, inR_f] at *; omega))) (by (first | omega | (simp [inR_t, inR_f] at *; omega)))) ?_ | refine Nm.mk (wrapQ (by (first | omega | (simp [inR_t, inR_f] at *; omega))) (by (first | omega | (simp [inR_t, inR_f] at *; omega))) (by (first | omega | (simp [inR_t, inR_f] at *; omega)))) ?_ | refine Nm.mk (tmodN (by (first | omega | (simp [inR_t, inR_f] at *; omega)))) ?_ | refine Nm.mk (mi_eq _ _) ?_ | refine Nm.mk (ma_eq _ _) ?_ | refine Rq.mk (by first | (simp [dOwnL, dOwn] <;> fail) | (first | omega | (simp [inR_t, inR_f] at *; omega))) ?_ | refine And.intro (by kernel_rfl) ?_ ))
    exact ⟨WkR.refl _, .refl _⟩
  have hz0 := szA_nn h (by omega)
  have hy0 := szA_le hz0
  have hs_p : Mani.size p ≤ 1048576 := by omega
  (repeat' ((conv => whnf); first | refine Br.tt ?_ | refine Br.ff ?_ | refine Br.pos (by assumption) ?_ | refine Br.neg (by assumption) ?_ | refine Br.bself ?_ | refine Br.dself ?_ | refine Br.iself ?_ | refine Br.neg (by simp; omega) ?_ | refine Nm.mk lenC ?_ | refine Nm.mk (wrapI (by (first | omega | (simp [inR_t, inR_f] at *; omega))) (by (first | omega | (simp [inR_t, inR_f] at *; omega)))) ?_ | refine Nm.mk (wrapQ (by (first | omega | (simp [inR_t, inR_f] at *; omega))) (by (first | omega | (simp [inR_t, inR_f] at *; omega))) (by (first | omega | (simp [inR_t, inR_f] at *; omega)))) ?_ | refine Nm.mk (tmodN (by (first | omega | (simp [inR_t, inR_f] at *; omega)))) ?_ | refine Nm.mk (mi_eq _ _) ?_ | refine Nm.mk (ma_eq _ _) ?_ | refine Rq.mk (by first | (simp [dOwnL, dOwn] <;> fail) | (first | omega | (simp [inR_t, inR_f] at *; omega))) ?_ | refine And.intro (by kernel_rfl) ?_ | refine Cl.mk (toManifest p (by omega)) ?_ | refine Cl.mk (toByteS b (by omega)) ?_ | refine Cl.mk (s_VerifySegment p i b hs_p hs_b) ?_ | refine Cl.mk (i_VerifySegment p i b hs_p hs_b) ?_ | refine Cl.mk (eqManifest p p (by omega)) ?_ | refine Cl.mk (eqByteS b b (by omega)) ?_ | refine Cl.mk (markManifest p (1) (by omega) (by have := Mani.cntv_le p; omega) (by omega)) ?_ | refine Cl.mk (markByteS b (1 + (Mani.cntv p : Nat)) (by omega) (by omega)) ?_ | refine Cl.pre (by simp only [shcLL_ints, shcLL_byts, shcLL_strs, Fetc.shcs, Mani.shcs, Name.shcs, Segm.shcs]; rfl) ?_))
  all_goals exact ⟨WkR.refl _, .refl _⟩
theorem is6 : FI 6 Try.f6 := ⟨⟨Try.f6, Try.func6, rfl, rfl, rfl, rfl⟩, rfl⟩
set_option maxRecDepth 20000 in
set_option maxHeartbeats 2000000 in
theorem exSegmentAt (b : List UInt8) (hf_b : b.length ≤ 9223372036854775807) (p : Mani) (hf_p : Mani.fits p) (i : Int) (hf_i : -9223372036854775808 ≤ i ∧ i ≤ 9223372036854775807) : FO 6 [O (cYs false b), A (Mani.c false p), I i] [O (cYs false b), A (Mani.c false p), I i] (B true) := by
  refine fok envOk mixed is6 ⟨rfl, rfl, ?_⟩
  refine Nm.mk lenC ?_
  refine Br.dec (fun h => ?_) (fun h => ?_)
  · (repeat' ((conv => whnf); first | refine Br.tt ?_ | refine Br.ff ?_ | refine Br.pos (by assumption) ?_ | refine Br.neg (by assumption) ?_ | refine Br.bself ?_ | refine Br.dself ?_ | refine Br.iself ?_ | refine Br.mk (fun _ => ?_) (fun _ => ?_) | refine Nm.mk lenC ?_ | refine Nm.mk (wrapI (by (first | omega | (simp [inR_t, inR_f] at *; omega))) (by (first | omega | (simp [inR_t, inR_f] at *; omega)))) ?_ | refine Nm.mk (wrapQ (by (first | omega | (simp [inR_t, inR_f] at *; omega))) (by (first | omega | (simp [inR_t, inR_f] at *; omega))) (by (first | omega | (simp [inR_t, inR_f] at *; omega)))) ?_ | refine Nm.mk (tmodN (by (first | omega | (simp [inR_t, inR_f] at *; omega)))) ?_ | refine Nm.mk (mi_eq _ _) ?_ | refine Nm.mk (ma_eq _ _) ?_ | refine Rq.mk (by first | (simp [dOwnL, dOwn] <;> fail) | (first | omega | (simp [inR_t, inR_f] at *; omega))) ?_ | refine And.intro (by kernel_rfl) ?_ ))
    exact ⟨WkR.refl _, .refl _⟩
  have hs_b : b.length ≤ 1048576 := by omega
  refine Cl.mk (szManifest p (1048576) (by omega) hf_p) ?_
  (conv => whnf)
  refine Br.dec (fun h => ?_) (fun h => ?_)
  · (repeat' ((conv => whnf); first | refine Br.tt ?_ | refine Br.ff ?_ | refine Br.pos (by assumption) ?_ | refine Br.neg (by assumption) ?_ | refine Br.bself ?_ | refine Br.dself ?_ | refine Br.iself ?_ | refine Br.mk (fun _ => ?_) (fun _ => ?_) | refine Nm.mk lenC ?_ | refine Nm.mk (wrapI (by (first | omega | (simp [inR_t, inR_f] at *; omega))) (by (first | omega | (simp [inR_t, inR_f] at *; omega)))) ?_ | refine Nm.mk (wrapQ (by (first | omega | (simp [inR_t, inR_f] at *; omega))) (by (first | omega | (simp [inR_t, inR_f] at *; omega))) (by (first | omega | (simp [inR_t, inR_f] at *; omega)))) ?_ | refine Nm.mk (tmodN (by (first | omega | (simp [inR_t, inR_f] at *; omega)))) ?_ | refine Nm.mk (mi_eq _ _) ?_ | refine Nm.mk (ma_eq _ _) ?_ | refine Rq.mk (by first | (simp [dOwnL, dOwn] <;> fail) | (first | omega | (simp [inR_t, inR_f] at *; omega))) ?_ | refine And.intro (by kernel_rfl) ?_ ))
    exact ⟨WkR.refl _, .refl _⟩
  have hz0 := szA_nn h (by omega)
  have hy0 := szA_le hz0
  have hs_p : Mani.size p ≤ 1048576 := by omega
  have hr0 := segAt_size (p := p) (i := i) hs_b
  (repeat' ((conv => whnf); first | refine Br.tt ?_ | refine Br.ff ?_ | refine Br.pos (by assumption) ?_ | refine Br.neg (by assumption) ?_ | refine Br.bself ?_ | refine Br.dself ?_ | refine Br.iself ?_ | refine Br.neg (by simp; omega) ?_ | refine Nm.mk lenC ?_ | refine Nm.mk (wrapI (by (first | omega | (simp [inR_t, inR_f] at *; omega))) (by (first | omega | (simp [inR_t, inR_f] at *; omega)))) ?_ | refine Nm.mk (wrapQ (by (first | omega | (simp [inR_t, inR_f] at *; omega))) (by (first | omega | (simp [inR_t, inR_f] at *; omega))) (by (first | omega | (simp [inR_t, inR_f] at *; omega)))) ?_ | refine Nm.mk (tmodN (by (first | omega | (simp [inR_t, inR_f] at *; omega)))) ?_ | refine Nm.mk (mi_eq _ _) ?_ | refine Nm.mk (ma_eq _ _) ?_ | refine Rq.mk (by first | (simp [dOwnL, dOwn] <;> fail) | (first | omega | (simp [inR_t, inR_f] at *; omega))) ?_ | refine And.intro (by kernel_rfl) ?_ | refine Cl.mk (toByteS b (by omega)) ?_ | refine Cl.mk (toManifest p (by omega)) ?_ | refine Cl.mk (s_SegmentAt b p i hs_p hs_b) ?_ | refine Cl.mk (i_SegmentAt b p i hs_p hs_b) ?_ | refine Cl.mk (eqByteS (segAt b p i) (segAt b p i) (by omega)) ?_ | refine Cl.mk (eqByteS b b (by omega)) ?_ | refine Cl.mk (eqManifest p p (by omega)) ?_ | refine Cl.mk (markByteS b (1) (by omega) (by omega)) ?_ | refine Cl.mk (markManifest p (1 + (b.length : Nat)) (by omega) (by have := Mani.cntv_le p; omega) (by omega)) ?_ | refine Cl.mk (markByteS (segAt b p i) (1) (by omega) (by omega)) ?_ | refine Cl.mk (heldByteS (segAt b p i) (1) (by omega) (by omega)) ?_ | refine Cl.pre (by simp only [shcLL_ints, shcLL_byts, shcLL_strs, Fetc.shcs, Mani.shcs, Name.shcs, Segm.shcs]; rfl) ?_))
  all_goals exact ⟨WkR.refl _, .refl _⟩
end Go.Proofs.Yteejljpfpnlpaaa
