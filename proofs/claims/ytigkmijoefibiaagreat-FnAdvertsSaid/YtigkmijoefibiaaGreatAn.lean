/- Contracts of functions of the program: no statement of the seat is proved here. Each under the conditions that stand in it. -/
import Derived.Test.YtigkmijoefibiaaGreatAm
set_option linter.all false
namespace Go.Proofs.YtigkmijoefibiaaGreat
open Go.Vs Go.Proofs
theorem is131 : FI 131 Tryz.f131 := ⟨⟨Tryz.f131, Tryz.func131, rfl, rfl, rfl, rfl⟩, rfl⟩
set_option maxRecDepth 20000 in
set_option maxHeartbeats 16000000 in
theorem l20Rows0 (cs : List AV) (C D : Nat → List AV) (L : Nat → List TEnt) (V : Nat → ByteArray) (X : Nat → Int) (k : Nat) (hk : k ≤ 5) (h0 : L 0 = []) (hL : ∀ j, L (j + 1) = (putTe (L j) (pN (V j)) (X j)).1) (hsz : ∀ j, (L j).length + sumN TEnt.size (L j) ≤ 55 * j) (k1 : FO 90 [O (.own cs), I 6] [O (.own (C 0)), I 6] (I k)) (k2 : ∀ j, FO 200 [O (.own (C j))] [O (.own (D j))] (A (Name.c false (pN (V j))))) (k3 : ∀ j, FO 90 [O (.own (D j)), I 6] [O (.own (C (j + 1))), I 6] (I (X j))) : FO 131 [O (.own cs)] [O (.own (C k))] (Tl true (L k)) := by
  refine fok envOk mixed is131 ⟨rfl, rfl, ?_⟩
  have hm : ([] : List (List AV)) = (L 0).map (TEnt.c false) := by rw [h0]; rfl
  (repeat' ((conv => whnf); first | refine stp ?_ | refine Cl.mk (k1) ?_ | refine Cl.pre (by simp only [shcLL_ints, shcLL_byts, shcLL_strs, Adve.shcs, Data.shcs, Fetc.shcs, Gran.shcs, Keyy.shcs, Mani.shcs, Name.shcs, Read.shcs, Rout.shcs, Segm.shcs, TEnt.shcs]; rfl) ?_))
  rw [hm]
  refine Lp.mk [.sl 0, .ex 0, .sl 3, .sl 4] (fun m σ => ∃ j, j + m = k ∧ σ = [Rf 0 0, Ex 0 (O (.own (C j))), Sa 3 (O (.sl true .unk 2 ((L j).map (TEnt.c false)))), Sa 4 (I m)]) (k) _ (.cons (.refl _) (.cons (.refl _) (.cons (.top .nil) (.cons (.refl _) .nil)))) ⟨0, by simp, (by first | rfl | (simp only [zlen, zsum, Nat.zero_mul, Int.add_zero, Int.sub_zero, List.nil_append, markG]; rfl))⟩ ?_
  rintro m τ ⟨j, hj, rfl⟩
  have hz := hsz j
  have hn := hL j
  refine Br.dec (fun h => ?_) (fun h => ?_)
  · have hp := s_PutEntry (L j) (pN (V j)) (X j) (by have := pN_sz (V j); omega)
    rw [show putTe (L j) (pN (V j)) (X j) = (L (j + 1), (putTe (L j) (pN (V j)) (X j)).2) by rw [hn]] at hp
    generalize (putTe (L j) (pN (V j)) (X j)).2 = bv at hp
    have k5 := k2 j
    have k6 := k3 j
    (repeat' ((conv => whnf); first | refine stp ?_ | refine Cl.mk (k5) ?_ | refine Cl.mk (k6) ?_ | refine Cl.eq hp (congrArg (fun z => [O (.sl false .unk 2 z), A (Name.c false (pN (V j))), I (X j)]) (shcLL_T (L j))) ?_ | refine Cl.pre (by simp only [shcLL_ints, shcLL_byts, shcLL_strs, Adve.shcs, Data.shcs, Fetc.shcs, Gran.shcs, Keyy.shcs, Mani.shcs, Name.shcs, Read.shcs, Rout.shcs, Segm.shcs, TEnt.shcs]; rfl) ?_))
    refine Nx.intro (m - 1) (by omega) _ (WkS.weak _ _) ⟨j + 1, by omega, ?_⟩
    (repeat' (first | exact rfl | refine consE ?_ ?_ | refine entE ?_ | refine vI ?_ | refine vS ?_ | refine vT ?_ | refine vB ?_))
    omega
  · obtain rfl : j = k := by omega
    (repeat' ((conv => whnf); first | refine stp ?_ ))
    exact Vs.Fin.mk (WkR.refl _) (.refl _)
end Go.Proofs.YtigkmijoefibiaaGreat
