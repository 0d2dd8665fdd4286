/- Contracts of functions of the program: no statement of the seat is proved here. Each under the conditions that stand in it. -/
import Derived.Test.YtoheiodpkjdlcaaAf
set_option linter.all false
namespace Go.Proofs.Ytoheiodpkjdlcaa
open Go.Vs Go.Proofs
theorem is5 : FI 5 Try.f5 := ⟨⟨Try.f5, Try.func5, rfl, rfl, rfl, rfl⟩, rfl⟩
set_option maxRecDepth 20000 in
set_option maxHeartbeats 16000000 in
theorem exMergeAdvertisement (l : List Adve) (hf_l : l.length ≤ 9223372036854775807 ∧ ∀ y ∈ l, Adve.fits y) (hg_l : ∀ y ∈ l, Adve.rng y) (a : Adve) (hf_a : Adve.fits a) (hg_a : Adve.rng a) : FO 5 [O (sl false 4 (l.map (Adve.c false))), A (Adve.c false a)] [O (sl false 4 (l.map (Adve.c false))), A (Adve.c false a)] (B true) := by
  refine fok envOk mixed is5 ⟨rfl, rfl, ?_⟩
  refine Cl.mk (szAdvertisementS l (1048576) (by omega) hf_l) ?_
  (conv => whnf)
  refine Br.dec (fun h => ?_) (fun h => ?_)
  · (repeat' ((conv => whnf); first | refine Br.tt ?_ | refine Br.ff ?_ | refine Br.pos (by assumption) ?_ | refine Br.neg (by assumption) ?_ | refine Br.bself ?_ | refine Br.dself ?_ | refine Br.iself ?_ | refine Br.mk (fun _ => ?_) (fun _ => ?_) | refine Nm.mk lenC ?_ | refine Nm.mk (wrapI (by (first | omega | (simp [inR_t, inR_f] at *; omega))) (by (first | omega | (simp [inR_t, inR_f] at *; omega)))) ?_ | refine Nm.mk (wrapQ (by (first | omega | (simp [inR_t, inR_f] at *; omega))) (by (first | omega | (simp [inR_t, inR_f] at *; omega))) (by (first | omega | (simp [inR_t, inR_f] at *; omega)))) ?_ | refine Nm.mk (tmodN (by (first | omega | (simp [inR_t, inR_f] at *; omega)))) ?_ | refine Nm.mk (szS _) ?_ | refine Nm.mk (mi_eq _ _) ?_ | refine Nm.mk (ma_eq _ _) ?_ | refine Rq.mk (by first | (simp [dOwnL, dOwn] <;> fail) | (first | omega | (simp [inR_t, inR_f] at *; omega))) ?_ | refine And.intro (orderFast (by kernel_rfl)) ?_ | refine And.intro (by kernel_rfl) ?_ ))
    exact ⟨WkR.refl _, .refl _⟩
  have hz0 := szA_nn h (by omega)
  have hy0 := szA_le hz0
  have hs_l : (l.length + sumN Adve.size l) ≤ 1048576 := by omega
  refine Cl.mk (szAdvertisement a (szA ((l.length + sumN Adve.size l)) (1048576)) (by omega) hf_a) ?_
  (conv => whnf)
  refine Br.dec (fun h => ?_) (fun h => ?_)
  · (repeat' ((conv => whnf); first | refine Br.tt ?_ | refine Br.ff ?_ | refine Br.pos (by assumption) ?_ | refine Br.neg (by assumption) ?_ | refine Br.bself ?_ | refine Br.dself ?_ | refine Br.iself ?_ | refine Br.mk (fun _ => ?_) (fun _ => ?_) | refine Nm.mk lenC ?_ | refine Nm.mk (wrapI (by (first | omega | (simp [inR_t, inR_f] at *; omega))) (by (first | omega | (simp [inR_t, inR_f] at *; omega)))) ?_ | refine Nm.mk (wrapQ (by (first | omega | (simp [inR_t, inR_f] at *; omega))) (by (first | omega | (simp [inR_t, inR_f] at *; omega))) (by (first | omega | (simp [inR_t, inR_f] at *; omega)))) ?_ | refine Nm.mk (tmodN (by (first | omega | (simp [inR_t, inR_f] at *; omega)))) ?_ | refine Nm.mk (szS _) ?_ | refine Nm.mk (mi_eq _ _) ?_ | refine Nm.mk (ma_eq _ _) ?_ | refine Rq.mk (by first | (simp [dOwnL, dOwn] <;> fail) | (first | omega | (simp [inR_t, inR_f] at *; omega))) ?_ | refine And.intro (orderFast (by kernel_rfl)) ?_ | refine And.intro (by kernel_rfl) ?_ ))
    exact ⟨WkR.refl _, .refl _⟩
  have hz1 := szA_nn h (by omega)
  have hy1 := szA_le hz1
  have hs_a : Adve.size a ≤ 1048576 := by omega
  have hl_l : l.length ≤ 1048576 := by omega
  have hc_l := Adve.cnts_le l
  have hc_a := Adve.cntv_le a
  have hr0 := mrg_size l a
  (repeat' ((conv => whnf); first | refine Br.tt ?_ | refine Br.ff ?_ | refine Br.pos (by assumption) ?_ | refine Br.neg (by assumption) ?_ | refine Br.bself ?_ | refine Br.dself ?_ | refine Br.iself ?_ | refine Br.neg (by simp; omega) ?_ | refine Nm.mk lenC ?_ | refine Nm.mk (wrapI (by (first | omega | (simp [inR_t, inR_f] at *; omega))) (by (first | omega | (simp [inR_t, inR_f] at *; omega)))) ?_ | refine Nm.mk (wrapQ (by (first | omega | (simp [inR_t, inR_f] at *; omega))) (by (first | omega | (simp [inR_t, inR_f] at *; omega))) (by (first | omega | (simp [inR_t, inR_f] at *; omega)))) ?_ | refine Nm.mk (tmodN (by (first | omega | (simp [inR_t, inR_f] at *; omega)))) ?_ | refine Nm.mk (szS _) ?_ | refine Nm.mk (mi_eq _ _) ?_ | refine Nm.mk (ma_eq _ _) ?_ | refine Rq.mk (by first | (simp [dOwnL, dOwn] <;> fail) | (first | omega | (simp [inR_t, inR_f] at *; omega))) ?_ | refine And.intro (orderFast (by kernel_rfl)) ?_ | refine And.intro (by kernel_rfl) ?_ | refine Cl.mk (toAdvertisementS l (by omega)) ?_ | refine Cl.mk (toAdvertisement a (by omega)) ?_ | refine Cl.mk (s_MergeS l a (by omega)) ?_ | refine Cl.mk (i_Merge l a (by omega)) ?_ | refine Cl.mk (eqAdvertisementS ((mrgA l a).1) ((mrgA l a).1) (by omega)) ?_ | refine Cl.mk (eqAdvertisementS l l (by omega)) ?_ | refine Cl.mk (eqAdvertisement a a (by omega)) ?_ | refine Cl.mk (markAdvertisementS l (1) (by omega) (by have := Adve.cnts_le l; omega) (by omega)) ?_ | refine Cl.mk (markAdvertisement a (1 + (sumN Adve.cnt l : Nat)) (by omega) (by have := Adve.cntv_le a; omega) (by omega)) ?_ | refine Cl.mk (markAdvertisementS ((mrgA l a).1) (1) (by omega) (by have := Adve.cnts_le ((mrgA l a).1); omega) (by omega)) ?_ | refine Cl.mk (heldAdvertisementS ((mrgA l a).1) (1) (by omega) (by have := Adve.cnts_le ((mrgA l a).1); omega) (by omega)) ?_ | refine Cl.pre (by simp only [shcLL_ints, shcLL_byts, shcLL_strs, Adve.shcs, Fetc.shcs, Gran.shcs, Mani.shcs, Name.shcs, Read.shcs, Segm.shcs]; rfl) ?_))
  all_goals exact ⟨WkR.refl _, .refl _⟩
end Go.Proofs.Ytoheiodpkjdlcaa
