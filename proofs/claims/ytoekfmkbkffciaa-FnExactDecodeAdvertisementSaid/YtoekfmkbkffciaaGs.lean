/- Contracts of functions of the program: no statement of the seat is proved here. Each under the conditions that stand in it. -/
import Derived.Test.YtoekfmkbkffciaaEp
set_option linter.all false
namespace Go.Proofs.Ytoekfmkbkffciaa
open Go.Vs Go.Proofs
theorem is3 : FI 3 Try.f3 := ⟨⟨Try.f3, Try.func3, rfl, rfl, rfl, rfl⟩, rfl⟩
set_option maxRecDepth 20000 in
set_option maxHeartbeats 16000000 in
theorem exDecodeAdvertisement (b : List UInt8) (hf_b : b.length ≤ 9223372036854775807) : FO 3 [O (cYs false b)] [O (cYs false b)] (B true) := by
  refine fok envOk mixed is3 ⟨rfl, rfl, ?_⟩
  refine Nm.mk lenC ?_
  refine Br.dec (fun h => ?_) (fun h => ?_)
  · (repeat' ((conv => whnf); first | refine stp ?_ | refine Br.mk (fun _ => ?_) (fun _ => ?_) ))
    exact ⟨WkR.refl _, .refl _⟩
  have hs_b : b.length ≤ 1048576 := by omega
  have hr0 := dAd_size b
  (repeat' ((conv => whnf); first | refine stp ?_ | refine Br.neg (by simp; omega) ?_ | refine Cl.mk (toByteS b (by omega)) ?_ | refine Cl.mk (s_DAd b hs_b) ?_ | refine Cl.mk (i_DAd b hs_b) ?_ | refine Cl.mk (eqAdvertisement (dAd b) (dAd b) (by omega)) ?_ | refine Cl.mk (eqByteS b b (by omega)) ?_ | refine Cl.mk (markByteS b (1) (by omega) (by omega)) ?_ | refine Cl.mk (markAdvertisement (dAd b) (1) (by omega) (by have := Adve.cntv_le (dAd b); omega) (by omega)) ?_ | refine Cl.mk (heldAdvertisement (dAd b) (1) (by omega) (by have := Adve.cntv_le (dAd b); omega) (by omega)) ?_ | refine Cl.pre (by simp only [shcLL_ints, shcLL_byts, shcLL_strs, Adve.shcs, Data.shcs, Fetc.shcs, Gran.shcs, Keyy.shcs, Mani.shcs, Name.shcs, Read.shcs, Rout.shcs, Segm.shcs, TEnt.shcs]; rfl) ?_))
  all_goals exact ⟨WkR.refl _, .refl _⟩
end Go.Proofs.Ytoekfmkbkffciaa
