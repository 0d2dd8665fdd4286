/- Contracts of functions of the program: no statement of the seat is proved here. Each under the conditions that stand in it. -/
import Derived.Test.YtleljkfmeomnpaaHc
set_option linter.all false
namespace Go.Proofs.Ytleljkfmeomnpaa
open Go.Vs Go.Proofs
theorem is8 : FI 8 Try.f8 := ⟨⟨Try.f8, Try.func8, rfl, rfl, rfl, rfl⟩, rfl⟩
set_option maxRecDepth 20000 in
set_option maxHeartbeats 16000000 in
theorem exComputeRoutes (t : Topo) (hf_t : Topo.fits t) (hg_t : Topo.rng t) (l : List Adve) (hf_l : l.length ≤ 9223372036854775807 ∧ ∀ y ∈ l, Adve.fits y) (hg_l : ∀ y ∈ l, Adve.rng y) (a : Int) (hf_a : -9223372036854775808 ≤ a ∧ a ≤ 9223372036854775807) : FO 8 [A (Topo.c false t), O (sl false 4 (l.map (Adve.c false))), I a] [A (Topo.c false t), O (sl false 4 (l.map (Adve.c false))), I a] (B true) := by
  refine fok envOk mixed is8 ⟨rfl, rfl, ?_⟩
  refine Cl.mk (szTopology t (1048576) (by omega) hf_t) ?_
  (conv => whnf)
  refine Br.dec (fun h => ?_) (fun h => ?_)
  · (repeat' ((conv => whnf); first | refine Br.tt ?_ | refine Br.ff ?_ | refine Br.pos (by assumption) ?_ | refine Br.neg (by assumption) ?_ | refine Br.bself ?_ | refine Br.dself ?_ | refine Br.iself ?_ | refine Br.mk (fun _ => ?_) (fun _ => ?_) | refine Nm.mk lenC ?_ | refine Nm.mk (wrapI (by (first | omega | (simp [inR_t, inR_f] at *; omega))) (by (first | omega | (simp [inR_t, inR_f] at *; omega)))) ?_ | refine Nm.mk (wrapQ (by (first | omega | (simp [inR_t, inR_f] at *; omega))) (by (first | omega | (simp [inR_t, inR_f] at *; omega))) (by (first | omega | (simp [inR_t, inR_f] at *; omega)))) ?_ | refine Nm.mk (tmodN (by (first | omega | (simp [inR_t, inR_f] at *; omega)))) ?_ | refine Nm.mk (szS _) ?_ | refine Nm.mk (mi_eq _ _) ?_ | refine Nm.mk (ma_eq _ _) ?_ | refine Rq.mk (by first | (simp [dOwnL, dOwn] <;> fail) | (first | omega | (simp [inR_t, inR_f] at *; omega))) ?_ | refine And.intro (orderFast (by kernel_rfl)) ?_ | refine And.intro (by kernel_rfl) ?_ ))
    exact ⟨WkR.refl _, .refl _⟩
  have hz0 := szA_nn h (by omega)
  have hy0 := szA_le hz0
  have hs_t : Topo.size t ≤ 1048576 := by omega
  refine Cl.mk (szAdvertisementS l (szA (Topo.size t) (1048576)) (by omega) hf_l) ?_
  (conv => whnf)
  refine Br.dec (fun h => ?_) (fun h => ?_)
  · (repeat' ((conv => whnf); first | refine Br.tt ?_ | refine Br.ff ?_ | refine Br.pos (by assumption) ?_ | refine Br.neg (by assumption) ?_ | refine Br.bself ?_ | refine Br.dself ?_ | refine Br.iself ?_ | refine Br.mk (fun _ => ?_) (fun _ => ?_) | refine Nm.mk lenC ?_ | refine Nm.mk (wrapI (by (first | omega | (simp [inR_t, inR_f] at *; omega))) (by (first | omega | (simp [inR_t, inR_f] at *; omega)))) ?_ | refine Nm.mk (wrapQ (by (first | omega | (simp [inR_t, inR_f] at *; omega))) (by (first | omega | (simp [inR_t, inR_f] at *; omega))) (by (first | omega | (simp [inR_t, inR_f] at *; omega)))) ?_ | refine Nm.mk (tmodN (by (first | omega | (simp [inR_t, inR_f] at *; omega)))) ?_ | refine Nm.mk (szS _) ?_ | refine Nm.mk (mi_eq _ _) ?_ | refine Nm.mk (ma_eq _ _) ?_ | refine Rq.mk (by first | (simp [dOwnL, dOwn] <;> fail) | (first | omega | (simp [inR_t, inR_f] at *; omega))) ?_ | refine And.intro (orderFast (by kernel_rfl)) ?_ | refine And.intro (by kernel_rfl) ?_ ))
    exact ⟨WkR.refl _, .refl _⟩
  have hz1 := szA_nn h (by omega)
  have hy1 := szA_le hz1
  have hs_l : (l.length + sumN Adve.size l) ≤ 1048576 := by omega
  have hl_l : l.length ≤ 1048576 := by omega
  have hp_t : t.links.length ≤ 1048576 := hs_t
  have hc_t := Topo.cntv_le t
  have hc_l := Adve.cnts_le l
  have hr0 := (vRou_size (crs_ok t l a)).2
  (repeat' ((conv => whnf); first | refine Br.tt ?_ | refine Br.ff ?_ | refine Br.pos (by assumption) ?_ | refine Br.neg (by assumption) ?_ | refine Br.bself ?_ | refine Br.dself ?_ | refine Br.iself ?_ | refine Br.neg (by simp; omega) ?_ | refine Nm.mk lenC ?_ | refine Nm.mk (wrapI (by (first | omega | (simp [inR_t, inR_f] at *; omega))) (by (first | omega | (simp [inR_t, inR_f] at *; omega)))) ?_ | refine Nm.mk (wrapQ (by (first | omega | (simp [inR_t, inR_f] at *; omega))) (by (first | omega | (simp [inR_t, inR_f] at *; omega))) (by (first | omega | (simp [inR_t, inR_f] at *; omega)))) ?_ | refine Nm.mk (tmodN (by (first | omega | (simp [inR_t, inR_f] at *; omega)))) ?_ | refine Nm.mk (szS _) ?_ | refine Nm.mk (mi_eq _ _) ?_ | refine Nm.mk (ma_eq _ _) ?_ | refine Rq.mk (by first | (simp [dOwnL, dOwn] <;> fail) | (first | omega | (simp [inR_t, inR_f] at *; omega))) ?_ | refine And.intro (orderFast (by kernel_rfl)) ?_ | refine And.intro (by kernel_rfl) ?_ | refine Cl.mk (toTopology t (by omega)) ?_ | refine Cl.mk (toAdvertisementS l (by omega)) ?_ | refine Cl.mk (s_ComputeRoutes t l a (by omega) (by omega)) ?_ | refine Cl.mk (i_ComputeRoutes t l a (by omega) (by omega)) ?_ | refine Cl.mk (eqRouteS (crs t l a) (crs t l a) (by omega)) ?_ | refine Cl.mk (eqTopology t t (by omega)) ?_ | refine Cl.mk (eqAdvertisementS l l (by omega)) ?_ | refine Cl.mk (markTopology t (1) (by omega) (by have := Topo.cntv_le t; omega) (by omega)) ?_ | refine Cl.mk (markAdvertisementS l (1 + (Topo.cntv t : Nat)) (by omega) (by have := Adve.cnts_le l; omega) (by omega)) ?_ | refine Cl.mk (markRouteS (crs t l a) (1) (by omega) (by have := Rout.cnts_le (crs t l a); omega) (by omega)) ?_ | refine Cl.mk (heldRouteS (crs t l a) (1) (by omega) (by have := Rout.cnts_le (crs t l a); omega) (by omega)) ?_ | refine Cl.pre (by simp only [shcLL_ints, shcLL_byts, shcLL_strs, Adve.shcs, Fetc.shcs, Gran.shcs, Keyy.shcs, Link.shcs, Mani.shcs, Name.shcs, Read.shcs, Rout.shcs, Segm.shcs, TEnt.shcs, Topo.shcs]; rfl) ?_))
  all_goals exact ⟨WkR.refl _, .refl _⟩
end Go.Proofs.Ytleljkfmeomnpaa
