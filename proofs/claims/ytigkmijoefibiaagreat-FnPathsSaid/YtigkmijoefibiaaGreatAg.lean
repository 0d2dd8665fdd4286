/- Contracts of functions of the program: no statement of the seat is proved here. Each under the conditions that stand in it. -/
import Derived.Test.YtigkmijoefibiaaGreatAc
import Derived.Test.YtigkmijoefibiaaGreatNa
import Derived.Test.YtigkmijoefibiaaGreatM4
import Derived.Test.YtigkmijoefibiaaGreatTc
import Derived.Test.YtigkmijoefibiaaGreatTd
set_option linter.all false
namespace Go.Proofs.YtigkmijoefibiaaGreat
open Go.Vs Go.Proofs
/-! Advertisements, drawn -/
abbrev Adve.d (p : Adve) : List AV := [cI p.origin, cI p.version, cIs true p.nbs, sl true 1 (p.prefs.map (Name.c false))]
abbrev AD (p : Adve) : Arg := (.agg, Adve.d p)
theorem shcLL_N (l : List Name) : shcLL (l.map (Name.c false)) = l.map (Name.c false) := shcLL_map (fun _ => rfl) l
theorem Adve.shd (p : Adve) : shcL (Adve.d p) = Adve.c false p := by simp [Adve.d, Adve.c, shcL, Vs.shc, shcLL_ints, shcLL_N]
def names15 : List ByteArray := [⟨#[47]⟩, ⟨#[47, 97]⟩, ⟨#[47, 98]⟩, ⟨#[47, 97, 47, 110, 101, 119, 115]⟩]
theorem names15_size : ∀ s ∈ names15, s.size ≤ 7 := by decide
theorem is200 : FI 200 Tryz.f200 := ⟨⟨Tryz.f200, Tryz.func200, rfl, rfl, rfl, rfl⟩, rfl⟩
set_option maxRecDepth 20000 in
set_option maxHeartbeats 16000000 in
theorem l15Name0 (cs c1 : List AV) (s : ByteArray) (hs : s.size ≤ 7) (k1 : FO 175 [O (.own cs), Ss false names15] [O (.own c1), Ss false names15] (S s)) : FO 200 [O (.own cs)] [O (.own c1)] (A (Name.c false (pN s))) := by
  refine fok envOk mixed is200 ⟨rfl, rfl, ?_⟩
  have hO := s_l4Of s (by omega)
  (repeat' ((conv => whnf); first | refine stp ?_ | refine Cl.eq k1 (by simp only [shcLL, shcL, Vs.shc]; rfl) ?_ | refine Cl.mk (hO) ?_ | refine Cl.pre (by simp only [shcLL_ints, shcLL_byts, shcLL_strs, Adve.shcs, Data.shcs, Fetc.shcs, Gran.shcs, Keyy.shcs, Mani.shcs, Name.shcs, Read.shcs, Rout.shcs, Segm.shcs, TEnt.shcs]; rfl) ?_))
  exact Vs.Fin.mk (WkR.refl _) (.refl _)
theorem name15_ok {cs : List AV} (hc : IsC cs) : ∃ cs' s, IsC cs' ∧ s ∈ names15 ∧ FO 200 [O (.own cs)] [O (.own cs')] (A (Name.c false (pN s))) := by
  obtain ⟨c1, s, i1, hs, k1⟩ := str_ok hc names15 (by decide) (by decide)
  exact ⟨c1, s, i1, hs, l15Name0 cs c1 s (names15_size s hs) k1⟩
theorem is124 : FI 124 Tryz.f124 := ⟨⟨Tryz.f124, Tryz.func124, rfl, rfl, rfl, rfl⟩, rfl⟩
set_option maxRecDepth 20000 in
set_option maxHeartbeats 16000000 in
theorem l20Adv0 (cs c1 c2 : List AV) (C D : Nat → List AV) (M : Nat → List Int) (X : Nat → Bool) (P : Nat → List Name) (V : Nat → ByteArray) (o v : Int) (k : Nat) (ho : 0 ≤ o ∧ o < 6) (hv : 0 ≤ v ∧ v < 5) (hk : k ≤ 3) (hC0 : C 0 = c2) (hM0 : M 0 = []) (hP0 : P 0 = []) (hsk : ∀ j : Nat, (j : Int) = o → C (j + 1) = C j ∧ M (j + 1) = M j) (hdr : ∀ j : Nat, (j : Int) ≠ o → M (j + 1) = (if X j then M j ++ [(j : Int)] else M j) ∧ FO 133 [O (.own (C j)), I 2] [O (.own (C (j + 1))), I 2] (B (X j))) (hML : ∀ j, (M j).length ≤ j) (hP : ∀ j, P (j + 1) = P j ++ [pN (V j)]) (hPL : ∀ j, (P j).length = j) (k1 : FO 90 [O (.own cs), I 6] [O (.own c1), I 6] (I o)) (k2 : FO 90 [O (.own c1), I 5] [O (.own c2), I 5] (I v)) (k3 : FO 90 [O (.own (C 6)), I 3] [O (.own (D 0)), I 3] (I k)) (k4 : ∀ j, FO 200 [O (.own (D j))] [O (.own (D (j + 1)))] (A (Name.c false (pN (V j))))) : FO 124 [O (.own cs)] [O (.own (D k))] (AD ⟨o, 1 + v, M 6, P k⟩) := by
  refine fok envOk mixed is124 ⟨rfl, rfl, ?_⟩
  (repeat' ((conv => whnf); first | refine stp ?_ | refine Cl.mk (k1) ?_ | refine Cl.mk (k2) ?_ | refine Cl.pre (by simp only [shcLL_ints, shcLL_byts, shcLL_strs, Adve.shcs, Data.shcs, Fetc.shcs, Gran.shcs, Keyy.shcs, Mani.shcs, Name.shcs, Read.shcs, Rout.shcs, Segm.shcs, TEnt.shcs]; rfl) ?_))
  rw [← hC0]
  refine Lp.mk [.sl 0, .ex 0, .bx 2, .sl 2, .bx 3, .sl 3, .sl 4] (fun m σ => ∃ j, j + m = 6 ∧ σ = [Rf 0 0, Ex 0 (O (.own (C j))), Bx 2 ([cI 0, cI 0, .sl true .isnil 0 [], .sl true .isnil 0 []]), Pt 2, Bx 3 ([cI o, cI (1 + v), .sl true .unk 1 (ints (M j)), .sl true .isnil 0 []]), Pt 3, Sa 4 (I j)]) (6) _ (.cons (.refl _) (.cons (.refl _) (.cons (.refl _) (.cons (.refl _) (.cons (.keep (.keep (.nils (.refl _)))) (.cons (.refl _) (.cons (.refl _) .nil))))))) ⟨0, by simp, (by first | rfl | (simp only [zlen, zsum, Nat.zero_mul, Int.add_zero, Int.sub_zero, List.nil_append, markG, hM0]; rfl))⟩ ?_
  rintro m τ ⟨j, hj, rfl⟩
  have hml := hML j
  refine Br.dec (fun h => ?_) (fun h => ?_)
  · by_cases hjo : (j : Int) = o
    · have f1 : (!((j : Int) == o)) = false := by simp [hjo]
      obtain ⟨e1, e2⟩ := hsk j hjo
      (repeat' ((conv => whnf); first | refine stp ?_ ))
      refine Nx.intro (m - 1) (by omega) _ (WkS.weak _ _) ⟨j + 1, by omega, ?_⟩
      rw [e1, e2]
      (repeat' (first | exact rfl | refine consE ?_ ?_ | refine entE ?_ | refine vI ?_ | refine vS ?_ | refine vT ?_ | refine vB ?_))
    · have f1 : (!((j : Int) == o)) = true := by simp [hjo]
      obtain ⟨e2, k5⟩ := hdr j hjo
      cases hx : X j with
      | true =>
        rw [hx] at k5 e2
        (repeat' ((conv => whnf); first | refine stp ?_ | refine Cl.mk (k5) ?_ | refine Rq.mk (by simp; omega) ?_ | refine Cl.pre (by simp only [shcLL_ints, shcLL_byts, shcLL_strs, Adve.shcs, Data.shcs, Fetc.shcs, Gran.shcs, Keyy.shcs, Mani.shcs, Name.shcs, Read.shcs, Rout.shcs, Segm.shcs, TEnt.shcs]; rfl) ?_))
        refine Nx.intro (m - 1) (by omega) _ (WkS.weak _ _) ⟨j + 1, by omega, ?_⟩
        rw [e2]
        (repeat' (first | exact rfl | refine consE ?_ ?_ | refine entE ?_ | refine vI ?_ | refine vS ?_ | refine vT ?_ | refine vB ?_))
        simp
      | false =>
        rw [hx] at k5 e2
        (repeat' ((conv => whnf); first | refine stp ?_ | refine Cl.mk (k5) ?_ | refine Cl.pre (by simp only [shcLL_ints, shcLL_byts, shcLL_strs, Adve.shcs, Data.shcs, Fetc.shcs, Gran.shcs, Keyy.shcs, Mani.shcs, Name.shcs, Read.shcs, Rout.shcs, Segm.shcs, TEnt.shcs]; rfl) ?_))
        refine Nx.intro (m - 1) (by omega) _ (WkS.weak _ _) ⟨j + 1, by omega, ?_⟩
        rw [e2]
        (repeat' (first | exact rfl | refine consE ?_ ?_ | refine entE ?_ | refine vI ?_ | refine vS ?_ | refine vT ?_ | refine vB ?_))
  · obtain rfl : j = 6 := by omega
    (repeat' ((conv => whnf); first | refine stp ?_ | refine Cl.mk (k3) ?_ | refine Cl.pre (by simp only [shcLL_ints, shcLL_byts, shcLL_strs, Adve.shcs, Data.shcs, Fetc.shcs, Gran.shcs, Keyy.shcs, Mani.shcs, Name.shcs, Read.shcs, Rout.shcs, Segm.shcs, TEnt.shcs]; rfl) ?_))
    refine Lp.mk [.sl 0, .ex 0, .bx 2, .sl 2, .bx 3, .sl 3, .sl 5] (fun m σ => ∃ j, j + m = k ∧ σ = [Rf 0 0, Ex 0 (O (.own (D j))), Bx 2 ([cI 0, cI 0, .sl true .isnil 0 [], .sl true .isnil 0 []]), Pt 2, Bx 3 ([cI o, cI (1 + v), .sl true .unk 1 (ints (M 6)), .sl true .unk 1 ((P j).map (Name.c false))]), Pt 3, Sa 5 (I m)]) (k) _ (.cons (.refl _) (.cons (.refl _) (.cons (.refl _) (.cons (.refl _) (.cons (.keep (.keep (.keep (.nils .nil)))) (.cons (.refl _) (.cons (.refl _) .nil))))))) ⟨0, by simp, (by first | rfl | (simp only [zlen, zsum, Nat.zero_mul, Int.add_zero, Int.sub_zero, List.nil_append, markG, hP0]; rfl))⟩ ?_
    rintro m τ ⟨j, hj, rfl⟩
    have hpl := hPL j
    refine Br.dec (fun h => ?_) (fun h => ?_)
    · have k5 := k4 j
      (repeat' ((conv => whnf); first | refine stp ?_ | refine Cl.mk (k5) ?_ | refine Rq.mk (by simp; omega) ?_ | refine Cl.pre (by simp only [shcLL_ints, shcLL_byts, shcLL_strs, Adve.shcs, Data.shcs, Fetc.shcs, Gran.shcs, Keyy.shcs, Mani.shcs, Name.shcs, Read.shcs, Rout.shcs, Segm.shcs, TEnt.shcs]; rfl) ?_))
      refine Nx.intro (m - 1) (by omega) _ (WkS.weak _ _) ⟨j + 1, by omega, ?_⟩
      rw [hP j]
      (repeat' (first | exact rfl | refine consE ?_ ?_ | refine entE ?_ | refine vI ?_ | refine vS ?_ | refine vT ?_ | refine vB ?_))
      all_goals first | omega | simp
    · obtain rfl : j = k := by omega
      (repeat' ((conv => whnf); first | refine stp ?_ ))
      exact Vs.Fin.mk (WkR.refl _) (.refl _)
theorem adv20_ok {cs : List AV} (hc : IsC cs) : ∃ (cs' : List AV) (a : Adve), IsC cs' ∧ a.nbs.length ≤ 6 ∧ a.prefs.length ≤ 3 ∧ Adve.size a ≤ 200 ∧ FO 124 [O (.own cs)] [O (.own cs')] (AD a) := by
  obtain ⟨c1, o, i1, ho, -, k1⟩ := below_ok hc 6
  have ho := ho (by omega)
  obtain ⟨c2, v, i2, hv, -, k2⟩ := below_ok i1 5
  have hv := hv (by omega)
  obtain ⟨C, X, h0, h⟩ := draws (σ := List AV × List Int × Nat) (χ := Bool) (P := fun s => IsC s.1) (R := fun s x s' => s'.2.2 = s.2.2 + 1 ∧ ((s.2.2 : Int) = o → s'.1 = s.1 ∧ s'.2.1 = s.2.1) ∧ ((s.2.2 : Int) ≠ o → s'.2.1 = (if x then s.2.1 ++ [(s.2.2 : Int)] else s.2.1) ∧ FO 133 [O (.own s.1), I 2] [O (.own s'.1), I 2] (B x))) (fun s hs => by
    by_cases hj : (s.2.2 : Int) = o
    · exact ⟨(s.1, s.2.1, s.2.2 + 1), false, hs, rfl, fun _ => ⟨rfl, rfl⟩, fun h => absurd hj h⟩
    · obtain ⟨c, b, a, d⟩ := once_ok hs 2
      exact ⟨(c, (if b then s.2.1 ++ [(s.2.2 : Int)] else s.2.1), s.2.2 + 1), b, a, rfl, fun h => absurd h hj, fun _ => ⟨rfl, d⟩⟩) (c2, [], 0) i2
  have hix : ∀ j, (C j).2.2 = j := by
    intro j
    induction j with
    | zero => rw [h0]
    | succ j ih => rw [(h j).2.1, ih]
  have hML : ∀ j, (C j).2.1.length ≤ j := by
    intro j
    induction j with
    | zero => rw [h0]; simp
    | succ j ih =>
      by_cases hj : ((C j).2.2 : Int) = o
      · rw [((h j).2.2.1 hj).2]; omega
      · rw [((h j).2.2.2 hj).1]
        split
        · simp; omega
        · omega
  obtain ⟨c3, x, i3, hx, -, k3⟩ := below_ok (h 6).1 3
  have hx := hx (by omega)
  obtain ⟨k, rfl⟩ : ∃ k : Nat, x = k := ⟨x.toNat, by omega⟩
  obtain ⟨D, V, g0, g⟩ := draws (σ := List AV × List Name) (χ := ByteArray) (P := fun s => IsC s.1) (R := fun s x s' => s'.2 = s.2 ++ [pN x] ∧ FO 200 [O (.own s.1)] [O (.own s'.1)] (A (Name.c false (pN x)))) (fun s hs => by
    obtain ⟨c, v, a, -, d⟩ := name15_ok hs
    exact ⟨(c, s.2 ++ [pN v]), v, a, rfl, d⟩) (c3, []) i3
  have hPL : ∀ j, (D j).2.length = j := by
    intro j
    induction j with
    | zero => rw [g0]; rfl
    | succ j ih => rw [(g j).2.1]; simp [ih]
  have hPS : ∀ j, sumN Name.size (D j).2 ≤ 54 * j := by
    intro j
    induction j with
    | zero => rw [g0]; simp [sumN]
    | succ j ih =>
      rw [(g j).2.1, sumN_snoc]
      have : Name.size (pN (V j)) ≤ 54 := pN_sz _
      omega
  refine ⟨_, ⟨o, 1 + v, (C 6).2.1, (D k).2⟩, (g k).1, hML 6, by show (D k).2.length ≤ 3; rw [hPL]; omega, ?_, l20Adv0 cs c1 c2 (fun j => (C j).1) (fun j => (D j).1) (fun j => (C j).2.1) X (fun j => (D j).2) V o v k ho hv (by omega) (by simp only [h0]) (by simp only [h0]) (by simp only [g0])
    (fun j hj => (h j).2.2.1 (by rw [hix]; exact hj)) (fun j hj => by have := (h j).2.2.2 (by rw [hix]; exact hj); rw [hix] at this; exact this) hML (fun j => (g j).2.1) hPL k1 k2 (by simp only [g0]; exact k3) (fun j => (g j).2.2)⟩
  show (C 6).2.1.length + ((D k).2.length + sumN Name.size (D k).2) ≤ 200
  have := hML 6
  have := hPL k
  have := hPS k
  omega
end Go.Proofs.YtigkmijoefibiaaGreat
