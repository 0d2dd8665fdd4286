/- Contracts of functions of the program: no statement of the seat is proved here. Each under the conditions that stand in it. -/
import Derived.Test.YtcjolkhjjblnaaaUb
set_option linter.all false
namespace Go.Proofs.Ytcjolkhjjblnaaa
open Go.Vs Go.Proofs
/-! Grants, drawn -/
def gT (N : Nat → Name) (j : Nat) : List Gran := (List.range j).map fun k => mkGran 900 (N k)
theorem gT_succ (N : Nat → Name) (j : Nat) : gT N (j + 1) = gT N j ++ [mkGran 900 (N j)] := by simp [gT, List.range_succ]
theorem gT_len (N : Nat → Name) (j : Nat) : (gT N j).length = j := by simp [gT]
theorem gT_size {N : Nat → Name} (h : ∀ j, strsSize (N j).parts ≤ 27) : ∀ j, sumN Gran.size (gT N j) ≤ 27 * j
  | 0 => by simp [gT, sumN]
  | j + 1 => by
    have h1 := gT_size h j
    have h2 : Gran.size (mkGran 900 (N j)) ≤ 27 := h j
    rw [gT_succ, sumN_snoc]; omega
abbrev Gs (o : Bool) (l : List Gran) : Arg := O (sl o 2 (l.map (Gran.c o)))
theorem is91 : FI 91 Try.f91 := ⟨⟨Try.f91, Try.func91, rfl, rfl, rfl, rfl⟩, rfl⟩
set_option maxRecDepth 20000 in
set_option maxHeartbeats 16000000 in
theorem l25Grants_a (cs : List AV) (C : Nat → List AV) (c2 : List AV) (N : Nat → Name) (k : Nat) (hk : k ≤ 3) (hN : ∀ j, strsSize (N j).parts ≤ 27) (k1 : FO 77 [O (.own cs), I 4] [O (.own (C 0)), I 4] (I k)) (k2 : ∀ j, FO 89 [O (.own (C j))] [O (.own (C (j + 1)))] (A (Name.c true (N j)))) (b : Bool) (hb : b = false ∨ k = 0) (k3 : FO 92 [O (.own (C k)), I 8] [O (.own c2), I 8] (B b)) : FO 91 [O (.own cs), I 900] [O (.own c2), I 900] (Gs true (gT N k)) := by
  refine fok envOk mixed is91 ⟨rfl, rfl, ?_⟩
  (repeat' ((conv => whnf); first | refine Br.tt ?_ | refine Br.ff ?_ | refine Br.pos (by assumption) ?_ | refine Br.neg (by assumption) ?_ | refine Br.bself ?_ | refine Br.dself ?_ | refine Br.iself ?_ | refine Nm.mk lenC ?_ | refine Nm.mk (wrapI (by (first | omega | (simp [inR_t, inR_f] at *; omega))) (by (first | omega | (simp [inR_t, inR_f] at *; omega)))) ?_ | refine Nm.mk (wrapQ (by (first | omega | (simp [inR_t, inR_f] at *; omega))) (by (first | omega | (simp [inR_t, inR_f] at *; omega))) (by (first | omega | (simp [inR_t, inR_f] at *; omega)))) ?_ | refine Nm.mk (tmodN (by (first | omega | (simp [inR_t, inR_f] at *; omega)))) ?_ | refine Nm.mk (szS _) ?_ | refine Nm.mk (mi_eq _ _) ?_ | refine Nm.mk (ma_eq _ _) ?_ | refine Rq.mk (by first | (simp [dOwnL, dOwn] <;> fail) | (first | omega | (simp [inR_t, inR_f] at *; omega))) ?_ | refine And.intro (orderFast (by kernel_rfl)) ?_ | refine And.intro (by kernel_rfl) ?_ | refine Cl.mk (k1) ?_ | refine Cl.pre (by simp only [shcLL_ints, shcLL_byts, shcLL_strs, Fetc.shcs, Gran.shcs, Mani.shcs, Name.shcs, Read.shcs, Segm.shcs]; rfl) ?_))
  refine Lp.mk [.sl 0, .ex 0, .sl 1, .sl 5, .sl 6] (fun m σ => ∃ j, j + m = k ∧ σ = [Rf 0 0, Ex 0 (O (.own (C j))), Sa 1 (I 900), Sa 5 (O (.sl true .non 2 ((gT N j).map (Gran.c true)))), Sa 6 (I m)]) (k) _ (WkS.weak _ _) ⟨0, by simp, (by first | rfl | (simp only [zlen, zsum, Nat.zero_mul, Int.add_zero, Int.sub_zero, List.nil_append, markG]; rfl))⟩ ?_
  rintro m τ ⟨j, hj, rfl⟩
  have hgl := gT_len N j
  have hz := hN j
  refine Br.dec (fun h => ?_) (fun h => ?_)
  · (repeat' ((conv => whnf); first | refine Br.tt ?_ | refine Br.ff ?_ | refine Br.pos (by assumption) ?_ | refine Br.neg (by assumption) ?_ | refine Br.bself ?_ | refine Br.dself ?_ | refine Br.iself ?_ | refine Nm.mk lenC ?_ | refine Nm.mk (wrapI (by (first | omega | (simp [inR_t, inR_f] at *; omega))) (by (first | omega | (simp [inR_t, inR_f] at *; omega)))) ?_ | refine Nm.mk (wrapQ (by (first | omega | (simp [inR_t, inR_f] at *; omega))) (by (first | omega | (simp [inR_t, inR_f] at *; omega))) (by (first | omega | (simp [inR_t, inR_f] at *; omega)))) ?_ | refine Nm.mk (tmodN (by (first | omega | (simp [inR_t, inR_f] at *; omega)))) ?_ | refine Nm.mk (szS _) ?_ | refine Nm.mk (mi_eq _ _) ?_ | refine Nm.mk (ma_eq _ _) ?_ | refine Rq.mk (by first | (simp [dOwnL, dOwn] <;> fail) | (first | omega | (simp [inR_t, inR_f] at *; omega))) ?_ | refine And.intro (orderFast (by kernel_rfl)) ?_ | refine And.intro (by kernel_rfl) ?_ | refine Cl.mk (k2 j) ?_ | refine Cl.mk (s_MakeGrant 900 (N j) (by omega)) ?_ | refine Cl.pre (by simp only [shcLL_ints, shcLL_byts, shcLL_strs, Fetc.shcs, Gran.shcs, Mani.shcs, Name.shcs, Read.shcs, Segm.shcs]; rfl) ?_))
    refine Nx.intro (m - 1) (by omega) _ (WkS.weak _ _) ⟨j + 1, by omega, ?_⟩
    (repeat' (first | exact rfl | refine consE ?_ ?_ | refine entE ?_ | refine vI ?_ | refine vS ?_ | refine vT ?_ | refine vB ?_))
    · rw [gT_succ]; simp
    · omega
  · obtain rfl : j = k := by omega
    rcases hb with rfl | rfl
    · (repeat' ((conv => whnf); first | refine Br.tt ?_ | refine Br.ff ?_ | refine Br.pos (by assumption) ?_ | refine Br.neg (by assumption) ?_ | refine Br.bself ?_ | refine Br.dself ?_ | refine Br.iself ?_ | refine Nm.mk lenC ?_ | refine Nm.mk (wrapI (by (first | omega | (simp [inR_t, inR_f] at *; omega))) (by (first | omega | (simp [inR_t, inR_f] at *; omega)))) ?_ | refine Nm.mk (wrapQ (by (first | omega | (simp [inR_t, inR_f] at *; omega))) (by (first | omega | (simp [inR_t, inR_f] at *; omega))) (by (first | omega | (simp [inR_t, inR_f] at *; omega)))) ?_ | refine Nm.mk (tmodN (by (first | omega | (simp [inR_t, inR_f] at *; omega)))) ?_ | refine Nm.mk (szS _) ?_ | refine Nm.mk (mi_eq _ _) ?_ | refine Nm.mk (ma_eq _ _) ?_ | refine Rq.mk (by first | (simp [dOwnL, dOwn] <;> fail) | (first | omega | (simp [inR_t, inR_f] at *; omega))) ?_ | refine And.intro (orderFast (by kernel_rfl)) ?_ | refine And.intro (by kernel_rfl) ?_ | refine Cl.mk (k3) ?_ | refine Cl.pre (by simp only [shcLL_ints, shcLL_byts, shcLL_strs, Fetc.shcs, Gran.shcs, Mani.shcs, Name.shcs, Read.shcs, Segm.shcs]; rfl) ?_))
      exact Vs.Fin.mk (WkR.of (.top .nil)) (.refl _)
    · cases b with
      | false =>
        (repeat' ((conv => whnf); first | refine Br.tt ?_ | refine Br.ff ?_ | refine Br.pos (by assumption) ?_ | refine Br.neg (by assumption) ?_ | refine Br.bself ?_ | refine Br.dself ?_ | refine Br.iself ?_ | refine Nm.mk lenC ?_ | refine Nm.mk (wrapI (by (first | omega | (simp [inR_t, inR_f] at *; omega))) (by (first | omega | (simp [inR_t, inR_f] at *; omega)))) ?_ | refine Nm.mk (wrapQ (by (first | omega | (simp [inR_t, inR_f] at *; omega))) (by (first | omega | (simp [inR_t, inR_f] at *; omega))) (by (first | omega | (simp [inR_t, inR_f] at *; omega)))) ?_ | refine Nm.mk (tmodN (by (first | omega | (simp [inR_t, inR_f] at *; omega)))) ?_ | refine Nm.mk (szS _) ?_ | refine Nm.mk (mi_eq _ _) ?_ | refine Nm.mk (ma_eq _ _) ?_ | refine Rq.mk (by first | (simp [dOwnL, dOwn] <;> fail) | (first | omega | (simp [inR_t, inR_f] at *; omega))) ?_ | refine And.intro (orderFast (by kernel_rfl)) ?_ | refine And.intro (by kernel_rfl) ?_ | refine Cl.mk (k3) ?_ | refine Cl.pre (by simp only [shcLL_ints, shcLL_byts, shcLL_strs, Fetc.shcs, Gran.shcs, Mani.shcs, Name.shcs, Read.shcs, Segm.shcs]; rfl) ?_))
        exact Vs.Fin.mk (WkR.of (.top .nil)) (.refl _)
      | true =>
        have f1 : decide (((gT N 0).length : Int) > 0) = false := rfl
        (repeat' ((conv => whnf); first | refine Br.tt ?_ | refine Br.ff ?_ | refine Br.pos (by assumption) ?_ | refine Br.neg (by assumption) ?_ | refine Br.bself ?_ | refine Br.dself ?_ | refine Br.iself ?_ | refine Nm.mk lenC ?_ | refine Nm.mk (wrapI (by (first | omega | (simp [inR_t, inR_f] at *; omega))) (by (first | omega | (simp [inR_t, inR_f] at *; omega)))) ?_ | refine Nm.mk (wrapQ (by (first | omega | (simp [inR_t, inR_f] at *; omega))) (by (first | omega | (simp [inR_t, inR_f] at *; omega))) (by (first | omega | (simp [inR_t, inR_f] at *; omega)))) ?_ | refine Nm.mk (tmodN (by (first | omega | (simp [inR_t, inR_f] at *; omega)))) ?_ | refine Nm.mk (szS _) ?_ | refine Nm.mk (mi_eq _ _) ?_ | refine Nm.mk (ma_eq _ _) ?_ | refine Rq.mk (by first | (simp [dOwnL, dOwn] <;> fail) | (first | omega | (simp [inR_t, inR_f] at *; omega))) ?_ | refine And.intro (orderFast (by kernel_rfl)) ?_ | refine And.intro (by kernel_rfl) ?_ | refine Cl.mk (k3) ?_ | refine Cl.pre (by simp only [shcLL_ints, shcLL_byts, shcLL_strs, Fetc.shcs, Gran.shcs, Mani.shcs, Name.shcs, Read.shcs, Segm.shcs]; rfl) ?_))
        exact Vs.Fin.mk (WkR.of (.top .nil)) (.refl _)
set_option maxRecDepth 20000 in
set_option maxHeartbeats 16000000 in
theorem l25Grants_b (cs : List AV) (C : Nat → List AV) (c2 c3 : List AV) (N : Nat → Name) (k : Nat) (v : Int) (hk : k + 1 ≤ 3) (hN : ∀ j, strsSize (N j).parts ≤ 27) (k1 : FO 77 [O (.own cs), I 4] [O (.own (C 0)), I 4] (I ((k + 1 : Nat) : Int))) (k2 : ∀ j, FO 89 [O (.own (C j))] [O (.own (C (j + 1)))] (A (Name.c true (N j)))) (k3 : FO 92 [O (.own (C (k + 1))), I 8] [O (.own c2), I 8] (B true)) (k4 : FO 107 [O (.own c2)] [O (.own c3)] (I v)) : FO 91 [O (.own cs), I 900] [O (.own c3), I 900] (Gs true (⟨N 0, v⟩ :: (gT N (k + 1)).drop 1)) := by
  refine fok envOk mixed is91 ⟨rfl, rfl, ?_⟩
  have hc : gT N (k + 1) = mkGran 900 (N 0) :: (gT N (k + 1)).drop 1 := by simp [gT, List.range_succ_eq_map]
  (repeat' ((conv => whnf); first | refine Br.tt ?_ | refine Br.ff ?_ | refine Br.pos (by assumption) ?_ | refine Br.neg (by assumption) ?_ | refine Br.bself ?_ | refine Br.dself ?_ | refine Br.iself ?_ | refine Nm.mk lenC ?_ | refine Nm.mk (wrapI (by (first | omega | (simp [inR_t, inR_f] at *; omega))) (by (first | omega | (simp [inR_t, inR_f] at *; omega)))) ?_ | refine Nm.mk (wrapQ (by (first | omega | (simp [inR_t, inR_f] at *; omega))) (by (first | omega | (simp [inR_t, inR_f] at *; omega))) (by (first | omega | (simp [inR_t, inR_f] at *; omega)))) ?_ | refine Nm.mk (tmodN (by (first | omega | (simp [inR_t, inR_f] at *; omega)))) ?_ | refine Nm.mk (szS _) ?_ | refine Nm.mk (mi_eq _ _) ?_ | refine Nm.mk (ma_eq _ _) ?_ | refine Rq.mk (by first | (simp [dOwnL, dOwn] <;> fail) | (first | omega | (simp [inR_t, inR_f] at *; omega))) ?_ | refine And.intro (orderFast (by kernel_rfl)) ?_ | refine And.intro (by kernel_rfl) ?_ | refine Cl.mk (k1) ?_ | refine Cl.pre (by simp only [shcLL_ints, shcLL_byts, shcLL_strs, Fetc.shcs, Gran.shcs, Mani.shcs, Name.shcs, Read.shcs, Segm.shcs]; rfl) ?_))
  refine Lp.mk [.sl 0, .ex 0, .sl 1, .sl 5, .sl 6] (fun m σ => ∃ j, j + m = k + 1 ∧ σ = [Rf 0 0, Ex 0 (O (.own (C j))), Sa 1 (I 900), Sa 5 (O (.sl true .non 2 ((gT N j).map (Gran.c true)))), Sa 6 (I m)]) (k + 1) _ (WkS.weak _ _) ⟨0, by simp, (by first | rfl | (simp only [zlen, zsum, Nat.zero_mul, Int.add_zero, Int.sub_zero, List.nil_append, markG]; rfl))⟩ ?_
  rintro m τ ⟨j, hj, rfl⟩
  have hgl := gT_len N j
  have hz := hN j
  refine Br.dec (fun h => ?_) (fun h => ?_)
  · (repeat' ((conv => whnf); first | refine Br.tt ?_ | refine Br.ff ?_ | refine Br.pos (by assumption) ?_ | refine Br.neg (by assumption) ?_ | refine Br.bself ?_ | refine Br.dself ?_ | refine Br.iself ?_ | refine Nm.mk lenC ?_ | refine Nm.mk (wrapI (by (first | omega | (simp [inR_t, inR_f] at *; omega))) (by (first | omega | (simp [inR_t, inR_f] at *; omega)))) ?_ | refine Nm.mk (wrapQ (by (first | omega | (simp [inR_t, inR_f] at *; omega))) (by (first | omega | (simp [inR_t, inR_f] at *; omega))) (by (first | omega | (simp [inR_t, inR_f] at *; omega)))) ?_ | refine Nm.mk (tmodN (by (first | omega | (simp [inR_t, inR_f] at *; omega)))) ?_ | refine Nm.mk (szS _) ?_ | refine Nm.mk (mi_eq _ _) ?_ | refine Nm.mk (ma_eq _ _) ?_ | refine Rq.mk (by first | (simp [dOwnL, dOwn] <;> fail) | (first | omega | (simp [inR_t, inR_f] at *; omega))) ?_ | refine And.intro (orderFast (by kernel_rfl)) ?_ | refine And.intro (by kernel_rfl) ?_ | refine Cl.mk (k2 j) ?_ | refine Cl.mk (s_MakeGrant 900 (N j) (by omega)) ?_ | refine Cl.pre (by simp only [shcLL_ints, shcLL_byts, shcLL_strs, Fetc.shcs, Gran.shcs, Mani.shcs, Name.shcs, Read.shcs, Segm.shcs]; rfl) ?_))
    refine Nx.intro (m - 1) (by omega) _ (WkS.weak _ _) ⟨j + 1, by omega, ?_⟩
    (repeat' (first | exact rfl | refine consE ?_ ?_ | refine entE ?_ | refine vI ?_ | refine vS ?_ | refine vT ?_ | refine vB ?_))
    · rw [gT_succ]; simp
    · omega
  · obtain rfl : j = k + 1 := by omega
    generalize (gT N (k + 1)).drop 1 = R at hc ⊢
    rw [hc] at hgl ⊢
    have f1 : decide (((mkGran 900 (N 0) :: R).length : Int) > 0) = true := by simp <;> omega
    (repeat' ((conv => whnf); first | refine Br.tt ?_ | refine Br.ff ?_ | refine Br.pos (by assumption) ?_ | refine Br.neg (by assumption) ?_ | refine Br.bself ?_ | refine Br.dself ?_ | refine Br.iself ?_ | refine Nm.mk lenC ?_ | refine Nm.mk (wrapI (by (first | omega | (simp [inR_t, inR_f] at *; omega))) (by (first | omega | (simp [inR_t, inR_f] at *; omega)))) ?_ | refine Nm.mk (wrapQ (by (first | omega | (simp [inR_t, inR_f] at *; omega))) (by (first | omega | (simp [inR_t, inR_f] at *; omega))) (by (first | omega | (simp [inR_t, inR_f] at *; omega)))) ?_ | refine Nm.mk (tmodN (by (first | omega | (simp [inR_t, inR_f] at *; omega)))) ?_ | refine Nm.mk (szS _) ?_ | refine Nm.mk (mi_eq _ _) ?_ | refine Nm.mk (ma_eq _ _) ?_ | refine Rq.mk (by first | (simp [dOwnL, dOwn] <;> fail) | (first | omega | (simp [inR_t, inR_f] at *; omega))) ?_ | refine And.intro (orderFast (by kernel_rfl)) ?_ | refine And.intro (by kernel_rfl) ?_ | refine Cl.mk (k3) ?_ | refine Cl.mk (k4) ?_ | refine El.mk (getA (d := []) rfl) ?_ | refine Cl.pre (by simp only [shcLL_ints, shcLL_byts, shcLL_strs, Fetc.shcs, Gran.shcs, Mani.shcs, Name.shcs, Read.shcs, Segm.shcs]; rfl) ?_))
    refine Vs.Fin.mk (WkR.of (.sl1 ?_ .nil)) (.refl _)
    simp [spliceAV, mkGran]
theorem grants_ok {cs : List AV} (hc : IsC cs) : ∃ cs' l, IsC cs' ∧ l.length ≤ 3 ∧ l.length + sumN Gran.size l ≤ 100 ∧ (∀ g ∈ l, strsSize g.name.parts ≤ 27) ∧ FO 91 [O (.own cs), I 900] [O (.own cs'), I 900] (Gs true l) := by
  obtain ⟨c1, x, i1, hx, -, k1⟩ := below_ok hc 4
  have hx := hx (by omega)
  obtain ⟨k, rfl⟩ : ∃ k : Nat, x = k := ⟨x.toNat, by omega⟩
  obtain ⟨C, N, rfl, h⟩ := draws (P := IsC) (R := fun s x s' => strsSize x.parts ≤ 27 ∧ FO 89 [O (.own s)] [O (.own s')] (A (Name.c true x))) (fun s hs => by
    obtain ⟨c, n, a, b, d⟩ := name_ok hs
    exact ⟨c, n, a, b, d⟩) c1 i1
  have hN : ∀ j, strsSize (N j).parts ≤ 27 := fun j => (h j).2.1
  have hk2 := fun j => (h j).2.2
  have hmem : ∀ j, ∀ g ∈ gT N j, strsSize g.name.parts ≤ 27 := by
    intro j g hg
    simp only [gT, List.mem_map] at hg
    obtain ⟨q, -, rfl⟩ := hg
    exact hN q
  obtain ⟨c2, b, i2, k3⟩ := once_ok (h k).1 8
  have hsz := gT_size hN k
  have hl := gT_len N k
  by_cases hb : b = false ∨ k = 0
  · exact ⟨c2, _, i2, by omega, by omega, hmem k, l25Grants_a cs C c2 N k (by omega) hN k1 hk2 b hb k3⟩
  · obtain ⟨q, rfl⟩ : ∃ q, k = q + 1 := ⟨k - 1, by omega⟩
    obtain rfl : b = true := by cases b <;> simp_all
    obtain ⟨c3, v, i3, -, k4⟩ := word_ok i2
    have hc2 : gT N (q + 1) = mkGran 900 (N 0) :: (gT N (q + 1)).drop 1 := by simp [gT, List.range_succ_eq_map]
    have h0 : Gran.size (mkGran 900 (N 0)) = strsSize (N 0).parts := rfl
    have h1 : Gran.size ⟨N 0, v⟩ = strsSize (N 0).parts := rfl
    have hm2 := hmem (q + 1)
    refine ⟨c3, _, i3, ?_, ?_, ?_, l25Grants_b cs C c2 c3 N q v (by omega) hN k1 hk2 k3 k4⟩
    · rw [hc2] at hl; simpa using (by simp at hl ⊢; omega : _)
    · rw [hc2] at hsz hl
      simp only [sumN, List.length_cons] at hsz hl ⊢
      omega
    · intro g hg
      rcases List.mem_cons.1 hg with rfl | hg
      · exact hN 0
      · exact hm2 g (List.mem_of_mem_drop hg)
end Go.Proofs.Ytcjolkhjjblnaaa
