/- Contracts of functions of the program: no statement of the seat is proved here. Each under the conditions that stand in it. -/
import Derived.Test.YtigkmijoefibiaaGreatJe
set_option linter.all false
namespace Go.Proofs.YtigkmijoefibiaaGreat
open Go.Vs Go.Proofs
theorem is3 : FI 3 Tryz.f3 := ⟨⟨Tryz.f3, Tryz.func3, rfl, rfl, rfl, rfl⟩, rfl⟩
set_option maxRecDepth 20000 in
set_option maxHeartbeats 16000000 in
theorem exPathTo (t : Topo) (hf_t : Topo.fits t) (hg_t : Topo.rng t) (l : List Adve) (hf_l : l.length ≤ 9223372036854775807 ∧ ∀ y ∈ l, Adve.fits y) (hg_l : ∀ y ∈ l, Adve.rng y) (a : Int) (hf_a : -9223372036854775808 ≤ a ∧ a ≤ 9223372036854775807) (x : Name) (hf_x : Name.fits x) : FO 3 [A (Topo.c false t), O (sl false 4 (l.map (Adve.c false))), I a, A (Name.c false x)] [A (Topo.c false t), O (sl false 4 (l.map (Adve.c false))), I a, A (Name.c false x)] (B true) := by
  refine fok envOk mixed is3 ⟨rfl, rfl, ?_⟩
  refine Cl.mk (szTopology t (1048576) (by omega) hf_t) ?_
  (conv => whnf)
  refine Br.dec (fun h => ?_) (fun h => ?_)
  · (repeat' ((conv => whnf); first | refine stp ?_ | refine Br.mk (fun _ => ?_) (fun _ => ?_) ))
    exact ⟨WkR.refl _, .refl _⟩
  have hz0 := szA_nn h (by omega)
  have hy0 := szA_le hz0
  have hs_t : Topo.size t ≤ 1048576 := by omega
  refine Cl.mk (szAdvertisementS l (szA (Topo.size t) (1048576)) (by omega) hf_l) ?_
  (conv => whnf)
  refine Br.dec (fun h => ?_) (fun h => ?_)
  · (repeat' ((conv => whnf); first | refine stp ?_ | refine Br.mk (fun _ => ?_) (fun _ => ?_) ))
    exact ⟨WkR.refl _, .refl _⟩
  have hz1 := szA_nn h (by omega)
  have hy1 := szA_le hz1
  have hs_l : (l.length + sumN Adve.size l) ≤ 1048576 := by omega
  refine Cl.mk (szName x (szA ((l.length + sumN Adve.size l)) (szA (Topo.size t) (1048576))) (by omega) hf_x) ?_
  (conv => whnf)
  refine Br.dec (fun h => ?_) (fun h => ?_)
  · (repeat' ((conv => whnf); first | refine stp ?_ | refine Br.mk (fun _ => ?_) (fun _ => ?_) ))
    exact ⟨WkR.refl _, .refl _⟩
  have hz2 := szA_nn h (by omega)
  have hy2 := szA_le hz2
  have hs_x : Name.size x ≤ 1048576 := by omega
  have hl_l : l.length ≤ 1048576 := by omega
  have hp_t : t.links.length ≤ 1048576 := hs_t
  have hq_x : strsSize x.parts ≤ 1048576 := hs_x
  have hw_t : ∀ b : Int, 0 ≤ b → b ≤ t.nodes - 1 → inR b 0 (IntKind.wrap .i64 (t.nodes - 1)) = true := fun b h1 h2 => by
    have hrn := hg_t
    simp only [Topo.rng] at hrn
    rw [wrapI (by omega) (by omega)]
    exact inR_t.2 ⟨h1, h2⟩
  have hc_t := Topo.cntv_le t
  have hc_l := Adve.cnts_le l
  have hc_x := Name.cntv_le x
  have hr0 := path_len t l a (IntKind.wrap .i64 (t.nodes - 1)) x
  (repeat' ((conv => whnf); first | refine stp ?_ | refine Br.neg (by simp; omega) ?_ | refine Cl.mk (toTopology t (by omega)) ?_ | refine Cl.mk (toAdvertisementS l (by omega)) ?_ | refine Cl.mk (toName x (by omega)) ?_ | refine Cl.mk (s_PathTo t l a x (IntKind.wrap .i64 (t.nodes - 1)) rfl hw_t (by omega) (by omega) (by omega)) ?_ | refine Cl.mk (i_PathTo t l a x (IntKind.wrap .i64 (t.nodes - 1)) rfl (by omega) (by omega) (by omega)) ?_ | refine Cl.mk (eqIntS (path t l a (IntKind.wrap .i64 (t.nodes - 1)) x) (path t l a (IntKind.wrap .i64 (t.nodes - 1)) x) (by omega)) ?_ | refine Cl.mk (eqTopology t t (by omega)) ?_ | refine Cl.mk (eqAdvertisementS l l (by omega)) ?_ | refine Cl.mk (eqName x x (by omega)) ?_ | refine Cl.mk (markTopology t (1) (by omega) (by have := Topo.cntv_le t; omega) (by omega)) ?_ | refine Cl.mk (markAdvertisementS l (1 + (Topo.cntv t : Nat)) (by omega) (by have := Adve.cnts_le l; omega) (by omega)) ?_ | refine Cl.mk (markName x (1 + (Topo.cntv t : Nat) + (sumN Adve.cnt l : Nat)) (by omega) (by have := Name.cntv_le x; omega) (by omega)) ?_ | refine Cl.mk (markIntS (path t l a (IntKind.wrap .i64 (t.nodes - 1)) x) (1) (by omega) (by omega)) ?_ | refine Cl.mk (heldIntS (path t l a (IntKind.wrap .i64 (t.nodes - 1)) x) (1) (by omega) (by omega)) ?_ | refine Cl.pre (by simp only [shcLL_ints, shcLL_byts, shcLL_strs, Adve.shcs, Fetc.shcs, Gran.shcs, Keyy.shcs, Link.shcs, Mani.shcs, Name.shcs, Read.shcs, Rout.shcs, Segm.shcs, TEnt.shcs, Topo.shcs]; rfl) ?_))
  all_goals exact ⟨WkR.refl _, .refl _⟩
end Go.Proofs.YtigkmijoefibiaaGreat
