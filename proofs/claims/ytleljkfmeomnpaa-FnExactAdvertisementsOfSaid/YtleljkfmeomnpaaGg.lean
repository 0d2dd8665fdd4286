/- Contracts of functions of the program: no statement of the seat is proved here. Each under the conditions that stand in it. -/
import Derived.Test.YtleljkfmeomnpaaDk
set_option linter.all false
namespace Go.Proofs.Ytleljkfmeomnpaa
open Go.Vs Go.Proofs
theorem is7 : FI 7 Try.f7 := ⟨⟨Try.f7, Try.func7, rfl, rfl, rfl, rfl⟩, rfl⟩
set_option maxRecDepth 20000 in
set_option maxHeartbeats 16000000 in
theorem exAdvertisementsOf (t : Topo) (hf_t : Topo.fits t) (hg_t : Topo.rng t) (rows : List TEnt) (hf_rows : rows.length ≤ 9223372036854775807 ∧ ∀ y ∈ rows, TEnt.fits y) (hg_rows : ∀ y ∈ rows, TEnt.rng y) (ver : Int) (hf_ver : -9223372036854775808 ≤ ver ∧ ver ≤ 9223372036854775807) : FO 7 [A (Topo.c false t), O (sl false 2 (rows.map (TEnt.c false))), I ver] [A (Topo.c false t), O (sl false 2 (rows.map (TEnt.c false))), I ver] (B true) := by
  refine fok envOk mixed is7 ⟨rfl, rfl, ?_⟩
  refine Cl.mk (szTopology t (1048576) (by omega) hf_t) ?_
  (conv => whnf)
  refine Br.dec (fun h => ?_) (fun h => ?_)
  · (repeat' ((conv => whnf); first | refine Br.tt ?_ | refine Br.ff ?_ | refine Br.pos (by assumption) ?_ | refine Br.neg (by assumption) ?_ | refine Br.bself ?_ | refine Br.dself ?_ | refine Br.iself ?_ | refine Br.mk (fun _ => ?_) (fun _ => ?_) | refine Nm.mk lenC ?_ | refine Nm.mk (wrapI (by (first | omega | (simp [inR_t, inR_f] at *; omega))) (by (first | omega | (simp [inR_t, inR_f] at *; omega)))) ?_ | refine Nm.mk (wrapQ (by (first | omega | (simp [inR_t, inR_f] at *; omega))) (by (first | omega | (simp [inR_t, inR_f] at *; omega))) (by (first | omega | (simp [inR_t, inR_f] at *; omega)))) ?_ | refine Nm.mk (tmodN (by (first | omega | (simp [inR_t, inR_f] at *; omega)))) ?_ | refine Nm.mk (szS _) ?_ | refine Nm.mk (mi_eq _ _) ?_ | refine Nm.mk (ma_eq _ _) ?_ | refine Rq.mk (by first | (simp [dOwnL, dOwn] <;> fail) | (first | omega | (simp [inR_t, inR_f] at *; omega))) ?_ | refine And.intro (orderFast (by kernel_rfl)) ?_ | refine And.intro (by kernel_rfl) ?_ ))
    exact ⟨WkR.refl _, .refl _⟩
  have hz0 := szA_nn h (by omega)
  have hy0 := szA_le hz0
  have hs_t : Topo.size t ≤ 1048576 := by omega
  refine Cl.mk (szTableEntryS rows (szA (Topo.size t) (1048576)) (by omega) hf_rows) ?_
  (conv => whnf)
  refine Br.dec (fun h => ?_) (fun h => ?_)
  · (repeat' ((conv => whnf); first | refine Br.tt ?_ | refine Br.ff ?_ | refine Br.pos (by assumption) ?_ | refine Br.neg (by assumption) ?_ | refine Br.bself ?_ | refine Br.dself ?_ | refine Br.iself ?_ | refine Br.mk (fun _ => ?_) (fun _ => ?_) | refine Nm.mk lenC ?_ | refine Nm.mk (wrapI (by (first | omega | (simp [inR_t, inR_f] at *; omega))) (by (first | omega | (simp [inR_t, inR_f] at *; omega)))) ?_ | refine Nm.mk (wrapQ (by (first | omega | (simp [inR_t, inR_f] at *; omega))) (by (first | omega | (simp [inR_t, inR_f] at *; omega))) (by (first | omega | (simp [inR_t, inR_f] at *; omega)))) ?_ | refine Nm.mk (tmodN (by (first | omega | (simp [inR_t, inR_f] at *; omega)))) ?_ | refine Nm.mk (szS _) ?_ | refine Nm.mk (mi_eq _ _) ?_ | refine Nm.mk (ma_eq _ _) ?_ | refine Rq.mk (by first | (simp [dOwnL, dOwn] <;> fail) | (first | omega | (simp [inR_t, inR_f] at *; omega))) ?_ | refine And.intro (orderFast (by kernel_rfl)) ?_ | refine And.intro (by kernel_rfl) ?_ ))
    exact ⟨WkR.refl _, .refl _⟩
  have hz1 := szA_nn h (by omega)
  have hy1 := szA_le hz1
  have hs_rows : (rows.length + sumN TEnt.size rows) ≤ 1048576 := by omega
  have hl_rows : rows.length ≤ 1048576 := by omega
  have hp_t : t.links.length ≤ 1048576 := hs_t
  have hc_t := Topo.cntv_le t
  have hc_rows := TEnt.cnts_le rows
  have hr0 := advs_size t rows ver (by omega)
  (repeat' ((conv => whnf); first | refine Br.tt ?_ | refine Br.ff ?_ | refine Br.pos (by assumption) ?_ | refine Br.neg (by assumption) ?_ | refine Br.bself ?_ | refine Br.dself ?_ | refine Br.iself ?_ | refine Br.neg (by simp; omega) ?_ | refine Nm.mk lenC ?_ | refine Nm.mk (wrapI (by (first | omega | (simp [inR_t, inR_f] at *; omega))) (by (first | omega | (simp [inR_t, inR_f] at *; omega)))) ?_ | refine Nm.mk (wrapQ (by (first | omega | (simp [inR_t, inR_f] at *; omega))) (by (first | omega | (simp [inR_t, inR_f] at *; omega))) (by (first | omega | (simp [inR_t, inR_f] at *; omega)))) ?_ | refine Nm.mk (tmodN (by (first | omega | (simp [inR_t, inR_f] at *; omega)))) ?_ | refine Nm.mk (szS _) ?_ | refine Nm.mk (mi_eq _ _) ?_ | refine Nm.mk (ma_eq _ _) ?_ | refine Rq.mk (by first | (simp [dOwnL, dOwn] <;> fail) | (first | omega | (simp [inR_t, inR_f] at *; omega))) ?_ | refine And.intro (orderFast (by kernel_rfl)) ?_ | refine And.intro (by kernel_rfl) ?_ | refine Cl.mk (toTopology t (by omega)) ?_ | refine Cl.mk (toTableEntryS rows (by omega)) ?_ | refine Cl.mk (s_AdvertisementsOf t rows ver (by omega) (by omega)) ?_ | refine Cl.mk (i_AdvertisementsOf t rows ver (by omega) (by omega)) ?_ | refine Cl.mk (eqAdvertisementS (advs t rows ver) (advs t rows ver) (by omega)) ?_ | refine Cl.mk (eqTopology t t (by omega)) ?_ | refine Cl.mk (eqTableEntryS rows rows (by omega)) ?_ | refine Cl.mk (markTopology t (1) (by omega) (by have := Topo.cntv_le t; omega) (by omega)) ?_ | refine Cl.mk (markTableEntryS rows (1 + (Topo.cntv t : Nat)) (by omega) (by have := TEnt.cnts_le rows; omega) (by omega)) ?_ | refine Cl.mk (markAdvertisementS (advs t rows ver) (1) (by omega) (by have := Adve.cnts_le (advs t rows ver); omega) (by omega)) ?_ | refine Cl.mk (heldAdvertisementS (advs t rows ver) (1) (by omega) (by have := Adve.cnts_le (advs t rows ver); omega) (by omega)) ?_ | refine Cl.pre (by simp only [shcLL_ints, shcLL_byts, shcLL_strs, Adve.shcs, Fetc.shcs, Gran.shcs, Keyy.shcs, Link.shcs, Mani.shcs, Name.shcs, Read.shcs, Rout.shcs, Segm.shcs, TEnt.shcs, Topo.shcs]; rfl) ?_))
  all_goals exact ⟨WkR.refl _, .refl _⟩
end Go.Proofs.Ytleljkfmeomnpaa
