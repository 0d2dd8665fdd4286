/- Contracts of functions of the program: no statement of the seat is proved here. Each under the conditions that stand in it. -/
import Derived.Test.YtgcnbfplihjelaaGreatDoorDn
import Derived.Test.YtgcnbfplihjelaaGreatDoorTd
import Derived.Test.YtgcnbfplihjelaaGreatDoorUa
import Derived.Test.YtgcnbfplihjelaaGreatDoorUb
import Derived.Test.YtgcnbfplihjelaaGreatDoorSd
import Derived.Test.YtgcnbfplihjelaaGreatDoorWc
set_option linter.all false
namespace Go.Proofs.YtgcnbfplihjelaaGreatDoor
open Go.Vs Go.Proofs
/-! Readers, drawn -/
abbrev Rs3 (l : List Read) : Arg := O (sl true 3 (l.map (Read.c true)))
abbrev RIN (l : List Read) (w : Int) (n : Name) : Arg := (.tup [(false, 1), (false, 1), (true, 1)], [sl true 3 (l.map (Read.c true)), cI w, cSs true n.parts])
abbrev RRN (l m : List Read) (n : Name) : Arg := (.tup [(false, 1), (false, 1), (true, 1)], [sl true 3 (l.map (Read.c true)), sl true 3 (m.map (Read.c true)), cSs true n.parts])
abbrev RR1 (l : List Read) (r : Read) : Arg := (.tup [(false, 1), (true, 3)], sl true 3 (l.map (Read.c true)) :: Read.c true r)
abbrev RII (l : List Read) (a b : Int) : Arg := (.tup [(false, 1), (false, 1), (false, 1)], [sl true 3 (l.map (Read.c true)), cI a, cI b])
abbrev II (a b : Int) : Arg := (.tup [(false, 1), (false, 1)], [cI a, cI b])
theorem addR_valid {l : List Read} (h : vRds l = true) (r : Read) : vRds (addR l r) = true := by
  unfold addR
  split
  · rename_i h1; exact h1
  · exact h
theorem is60 : FI 60 Tryz.f60 := ⟨⟨Tryz.f60, Tryz.func60, rfl, rfl, rfl, rfl⟩, rfl⟩
set_option maxRecDepth 20000 in
set_option maxHeartbeats 16000000 in
theorem l26Draw0 (cs : List AV) (C D E : Nat → List AV) (L : Nat → List Read) (N : Nat → Name) (X Y : Nat → Int) (k : Nat) (hk : k ≤ 6) (h0 : L 0 = []) (hL : ∀ j, L (j + 1) = addR (L j) ⟨X j, N j, Y j⟩) (hsz : ∀ j, (L j).length + sumN Read.size (L j) ≤ 28 * j) (hN : ∀ j, strsSize (N j).parts ≤ 27) (k1 : FO 62 [O (.own cs), I 7] [O (.own (C 0)), I 7] (I k)) (k2 : ∀ j, FO 61 [O (.own (C j))] [O (.own (D j))] (A (Name.c true (N j)))) (k3 : ∀ j, FO 62 [O (.own (D j)), I 4] [O (.own (E j)), I 4] (I (X j))) (k4 : ∀ j, FO 62 [O (.own (E j)), I 3] [O (.own (C (j + 1))), I 3] (I (Y j))) : FO 60 [O (.own cs)] [O (.own (C k))] (Rs3 (L k)) := by
  refine fok envOk mixed is60 ⟨rfl, rfl, ?_⟩
  have hm : ([] : List (List AV)) = (L 0).map (Read.c true) := by rw [h0]; rfl
  (repeat' ((conv => whnf); first | refine Br.tt ?_ | refine Br.ff ?_ | refine Br.pos (by assumption) ?_ | refine Br.neg (by assumption) ?_ | refine Br.bself ?_ | refine Br.dself ?_ | refine Br.iself ?_ | refine Nm.mk lenC ?_ | refine Nm.mk (wrapI (by (first | omega | (simp [inR_t, inR_f] at *; omega))) (by (first | omega | (simp [inR_t, inR_f] at *; omega)))) ?_ | refine Nm.mk (wrapQ (by (first | omega | (simp [inR_t, inR_f] at *; omega))) (by (first | omega | (simp [inR_t, inR_f] at *; omega))) (by (first | omega | (simp [inR_t, inR_f] at *; omega)))) ?_ | refine Nm.mk (tmodN (by (first | omega | (simp [inR_t, inR_f] at *; omega)))) ?_ | refine Nm.mk (szS _) ?_ | refine Nm.mk (mi_eq _ _) ?_ | refine Nm.mk (ma_eq _ _) ?_ | refine Rq.mk (by first | (simp [dOwnL, dOwn] <;> fail) | (first | omega | (simp [inR_t, inR_f] at *; omega))) ?_ | refine And.intro (orderFast (by kernel_rfl)) ?_ | refine And.intro (by kernel_rfl) ?_ | refine Cl.mk (k1) ?_ | refine Cl.pre (by simp only [shcLL_ints, shcLL_byts, shcLL_strs, Fetc.shcs, Gran.shcs, Mani.shcs, Name.shcs, Read.shcs, Segm.shcs]; rfl) ?_))
  rw [hm]
  refine Lp.mk [.sl 0, .ex 0, .sl 3, .sl 4] (fun m σ => ∃ j, j + m = k ∧ σ = [Rf 0 0, Ex 0 (O (.own (C j))), Sa 3 (O (.sl true .unk 3 ((L j).map (Read.c true)))), Sa 4 (I m)]) (k) _ (.cons (.refl _) (.cons (.refl _) (.cons (.top .nil) (.cons (.refl _) .nil)))) ⟨0, by simp, (by first | rfl | (simp only [zlen, zsum, Nat.zero_mul, Int.add_zero, Int.sub_zero, List.nil_append, markG]; rfl))⟩ ?_
  rintro m τ ⟨j, hj, rfl⟩
  have hz := hsz j
  have hn := hN j
  have hl := hL j
  refine Br.dec (fun h => ?_) (fun h => ?_)
  · have hA := s_AddReader (L j) ⟨X j, N j, Y j⟩ (by have : Read.size ⟨X j, N j, Y j⟩ = strsSize (N j).parts := rfl; omega)
    rw [← hl] at hA
    generalize vRds (L j ++ [⟨X j, N j, Y j⟩]) = bv at hA
    (repeat' ((conv => whnf); first | refine Br.tt ?_ | refine Br.ff ?_ | refine Br.pos (by assumption) ?_ | refine Br.neg (by assumption) ?_ | refine Br.bself ?_ | refine Br.dself ?_ | refine Br.iself ?_ | refine Nm.mk lenC ?_ | refine Nm.mk (wrapI (by (first | omega | (simp [inR_t, inR_f] at *; omega))) (by (first | omega | (simp [inR_t, inR_f] at *; omega)))) ?_ | refine Nm.mk (wrapQ (by (first | omega | (simp [inR_t, inR_f] at *; omega))) (by (first | omega | (simp [inR_t, inR_f] at *; omega))) (by (first | omega | (simp [inR_t, inR_f] at *; omega)))) ?_ | refine Nm.mk (tmodN (by (first | omega | (simp [inR_t, inR_f] at *; omega)))) ?_ | refine Nm.mk (szS _) ?_ | refine Nm.mk (mi_eq _ _) ?_ | refine Nm.mk (ma_eq _ _) ?_ | refine Rq.mk (by first | (simp [dOwnL, dOwn] <;> fail) | (first | omega | (simp [inR_t, inR_f] at *; omega))) ?_ | refine And.intro (orderFast (by kernel_rfl)) ?_ | refine And.intro (by kernel_rfl) ?_ | refine Cl.mk (k2 j) ?_ | refine Cl.mk (k3 j) ?_ | refine Cl.mk (k4 j) ?_ | refine Cl.mk (hA) ?_ | refine Cl.pre (by simp only [shcLL_ints, shcLL_byts, shcLL_strs, Fetc.shcs, Gran.shcs, Mani.shcs, Name.shcs, Read.shcs, Segm.shcs]; rfl) ?_))
    refine Nx.intro (m - 1) (by omega) _ (WkS.weak _ _) ⟨j + 1, by omega, ?_⟩
    (repeat' (first | exact rfl | refine consE ?_ ?_ | refine entE ?_ | refine vI ?_ | refine vS ?_ | refine vT ?_ | refine vB ?_))
    omega
  · obtain rfl : j = k := by omega
    (repeat' ((conv => whnf); first | refine Br.tt ?_ | refine Br.ff ?_ | refine Br.pos (by assumption) ?_ | refine Br.neg (by assumption) ?_ | refine Br.bself ?_ | refine Br.dself ?_ | refine Br.iself ?_ | refine Nm.mk lenC ?_ | refine Nm.mk (wrapI (by (first | omega | (simp [inR_t, inR_f] at *; omega))) (by (first | omega | (simp [inR_t, inR_f] at *; omega)))) ?_ | refine Nm.mk (wrapQ (by (first | omega | (simp [inR_t, inR_f] at *; omega))) (by (first | omega | (simp [inR_t, inR_f] at *; omega))) (by (first | omega | (simp [inR_t, inR_f] at *; omega)))) ?_ | refine Nm.mk (tmodN (by (first | omega | (simp [inR_t, inR_f] at *; omega)))) ?_ | refine Nm.mk (szS _) ?_ | refine Nm.mk (mi_eq _ _) ?_ | refine Nm.mk (ma_eq _ _) ?_ | refine Rq.mk (by first | (simp [dOwnL, dOwn] <;> fail) | (first | omega | (simp [inR_t, inR_f] at *; omega))) ?_ | refine And.intro (orderFast (by kernel_rfl)) ?_ | refine And.intro (by kernel_rfl) ?_ ))
    exact Vs.Fin.mk (WkR.refl _) (.refl _)
theorem draw26_ok {cs : List AV} (hc : IsC cs) : ∃ (cs' : List AV) (l : List Read), IsC cs' ∧ vRds l = true ∧ l.length + sumN Read.size l ≤ 168 ∧ FO 60 [O (.own cs)] [O (.own cs')] (Rs3 l) := by
  obtain ⟨c1, x, i1, hx, -, k1⟩ := below_ok hc 7
  have hx := hx (by omega)
  obtain ⟨k, rfl⟩ : ∃ k : Nat, x = k := ⟨x.toNat, by omega⟩
  obtain ⟨C, X, h0, h⟩ := draws (σ := List AV × List Read) (χ := Name × (Int × List AV) × Int × List AV) (P := fun s => IsC s.1 ∧ vRds s.2 = true) (R := fun s x s' => s'.2 = addR s.2 ⟨x.2.1.1, x.1, x.2.2.1⟩ ∧ strsSize x.1.parts ≤ 27 ∧ FO 61 [O (.own s.1)] [O (.own x.2.1.2)] (A (Name.c true x.1)) ∧ FO 62 [O (.own x.2.1.2), I 4] [O (.own x.2.2.2), I 4] (I x.2.1.1) ∧ FO 62 [O (.own x.2.2.2), I 3] [O (.own s'.1), I 3] (I x.2.2.1)) (fun s hs => by
    obtain ⟨c2, n, j2, hn, q2⟩ := name_ok hs.1
    obtain ⟨c3, y, j3, -, -, q3⟩ := below_ok j2 4
    obtain ⟨c4, z, j4, -, -, q4⟩ := below_ok j3 3
    exact ⟨(c4, addR s.2 ⟨y, n, z⟩), (n, (y, c2), z, c3), ⟨j4, addR_valid hs.2 _⟩, rfl, hn, q2, q3, q4⟩) (c1, []) ⟨i1, rfl⟩
  have hsz : ∀ j, (C j).2.length + sumN Read.size (C j).2 ≤ 28 * j := by
    intro j
    induction j with
    | zero => rw [h0]; simp [sumN]
    | succ j ih =>
      have h1 := (h j).2.1
      have h2 := addR_size (C j).2 ⟨(X j).2.1.1, (X j).1, (X j).2.2.1⟩
      have h3 : Read.size ⟨(X j).2.1.1, (X j).1, (X j).2.2.1⟩ = strsSize (X j).1.parts := rfl
      have h4 := (h j).2.2.1
      rw [h1]; omega
  have hk3 := hsz k
  exact ⟨_, _, (h k).1.1, (h k).1.2, by omega, l26Draw0 cs (fun j => (C j).1) (fun j => (X j).2.1.2) (fun j => (X j).2.2.2) (fun j => (C j).2) (fun j => (X j).1) (fun j => (X j).2.1.1) (fun j => (X j).2.2.1) k (by omega) (by simp only [h0]) (fun j => (h j).2.1) hsz (fun j => (h j).2.2.1) (by simp only [h0]; exact k1) (fun j => (h j).2.2.2.1) (fun j => (h j).2.2.2.2.1) (fun j => (h j).2.2.2.2.2)⟩
theorem is63 : FI 63 Tryz.f63 := ⟨⟨Tryz.f63, Tryz.func63, rfl, rfl, rfl, rfl⟩, rfl⟩
set_option maxRecDepth 20000 in
set_option maxHeartbeats 16000000 in
theorem l26Any_a (cs c1 c2 c3 c4 c5 : List AV) (l : List Read) (x y : Int) (n : Name) (hz : l.length + sumN Read.size l ≤ 168) (k1 : FO 60 [O (.own cs)] [O (.own c1)] (Rs3 l)) (k2 : FO 62 [O (.own c1), I 10] [O (.own c2), I 10] (I 0)) (k3 : FO 93 [O (.own c2), Is false [-1, 6, 0]] [O (.own c3), Is false [-1, 6, 0]] (I x)) (k4 : FO 64 [O (.own c3)] [O (.own c4)] (A (Name.c true n))) (k5 : FO 93 [O (.own c4), Is false [-1, 1001, 0]] [O (.own c5), Is false [-1, 1001, 0]] (I y)) : FO 63 [O (.own cs)] [O (.own c5)] (Rs3 (l ++ [⟨x, n, y⟩])) := by
  refine fok envOk mixed is63 ⟨rfl, rfl, ?_⟩
  (repeat' ((conv => whnf); first | refine Br.tt ?_ | refine Br.ff ?_ | refine Br.pos (by assumption) ?_ | refine Br.neg (by assumption) ?_ | refine Br.bself ?_ | refine Br.dself ?_ | refine Br.iself ?_ | refine Nm.mk lenC ?_ | refine Nm.mk (wrapI (by (first | omega | (simp [inR_t, inR_f] at *; omega))) (by (first | omega | (simp [inR_t, inR_f] at *; omega)))) ?_ | refine Nm.mk (wrapQ (by (first | omega | (simp [inR_t, inR_f] at *; omega))) (by (first | omega | (simp [inR_t, inR_f] at *; omega))) (by (first | omega | (simp [inR_t, inR_f] at *; omega)))) ?_ | refine Nm.mk (tmodN (by (first | omega | (simp [inR_t, inR_f] at *; omega)))) ?_ | refine Nm.mk (szS _) ?_ | refine Nm.mk (mi_eq _ _) ?_ | refine Nm.mk (ma_eq _ _) ?_ | refine Rq.mk (by first | (simp [dOwnL, dOwn] <;> fail) | (first | omega | (simp [inR_t, inR_f] at *; omega))) ?_ | refine And.intro (orderFast (by kernel_rfl)) ?_ | refine And.intro (by kernel_rfl) ?_ | refine Cl.mk (k1) ?_ | refine Cl.mk (k2) ?_ | refine Cl.eq k3 (by simp only [shcLL, shcL, Vs.shc]; rfl) ?_ | refine Cl.mk (k4) ?_ | refine Cl.eq k5 (by simp only [shcLL, shcL, Vs.shc]; rfl) ?_ | refine Rq.mk (by simp; omega) ?_ | refine Cl.pre (by simp only [shcLL_ints, shcLL_byts, shcLL_strs, Fetc.shcs, Gran.shcs, Mani.shcs, Name.shcs, Read.shcs, Segm.shcs]; rfl) ?_))
  refine Vs.Fin.mk (WkR.of (.sl1 ?_ .nil)) (.refl _)
  simp
set_option maxRecDepth 20000 in
set_option maxHeartbeats 16000000 in
theorem l26Any_b (cs c1 c2 : List AV) (l : List Read) (hz : l.length + sumN Read.size l ≤ 168) (k1 : FO 60 [O (.own cs)] [O (.own c1)] (Rs3 l)) (k2 : FO 62 [O (.own c1), I 10] [O (.own c2), I 10] (I 1)) : FO 63 [O (.own cs)] [O (.own c2)] (Rs3 (l ++ l)) := by
  refine fok envOk mixed is63 ⟨rfl, rfl, ?_⟩
  have hC := s_l26Copy l (by omega)
  (repeat' ((conv => whnf); first | refine Br.tt ?_ | refine Br.ff ?_ | refine Br.pos (by assumption) ?_ | refine Br.neg (by assumption) ?_ | refine Br.bself ?_ | refine Br.dself ?_ | refine Br.iself ?_ | refine Nm.mk lenC ?_ | refine Nm.mk (wrapI (by (first | omega | (simp [inR_t, inR_f] at *; omega))) (by (first | omega | (simp [inR_t, inR_f] at *; omega)))) ?_ | refine Nm.mk (wrapQ (by (first | omega | (simp [inR_t, inR_f] at *; omega))) (by (first | omega | (simp [inR_t, inR_f] at *; omega))) (by (first | omega | (simp [inR_t, inR_f] at *; omega)))) ?_ | refine Nm.mk (tmodN (by (first | omega | (simp [inR_t, inR_f] at *; omega)))) ?_ | refine Nm.mk (szS _) ?_ | refine Nm.mk (mi_eq _ _) ?_ | refine Nm.mk (ma_eq _ _) ?_ | refine Rq.mk (by first | (simp [dOwnL, dOwn] <;> fail) | (first | omega | (simp [inR_t, inR_f] at *; omega))) ?_ | refine And.intro (orderFast (by kernel_rfl)) ?_ | refine And.intro (by kernel_rfl) ?_ | refine Cl.mk (k1) ?_ | refine Cl.mk (k2) ?_ | refine Cl.mk (hC) ?_ | refine Rq.mk (by simp; omega) ?_ | refine Cl.pre (by simp only [shcLL_ints, shcLL_byts, shcLL_strs, Fetc.shcs, Gran.shcs, Mani.shcs, Name.shcs, Read.shcs, Segm.shcs]; rfl) ?_))
  refine Vs.Fin.mk (WkR.of (.sl1 ?_ .nil)) (.refl _)
  simp
set_option maxRecDepth 20000 in
set_option maxHeartbeats 16000000 in
theorem l26Any_c (cs c1 c2 : List AV) (l : List Read) (x : Int) (hx : 2 ≤ x) (k1 : FO 60 [O (.own cs)] [O (.own c1)] (Rs3 l)) (k2 : FO 62 [O (.own c1), I 10] [O (.own c2), I 10] (I x)) : FO 63 [O (.own cs)] [O (.own c2)] (Rs3 l) := by
  refine fok envOk mixed is63 ⟨rfl, rfl, ?_⟩
  have f1 : (x == 0) = false := by simp; omega
  have f2 : (x == 1) = false := by simp; omega
  (repeat' ((conv => whnf); first | refine Br.tt ?_ | refine Br.ff ?_ | refine Br.pos (by assumption) ?_ | refine Br.neg (by assumption) ?_ | refine Br.bself ?_ | refine Br.dself ?_ | refine Br.iself ?_ | refine Nm.mk lenC ?_ | refine Nm.mk (wrapI (by (first | omega | (simp [inR_t, inR_f] at *; omega))) (by (first | omega | (simp [inR_t, inR_f] at *; omega)))) ?_ | refine Nm.mk (wrapQ (by (first | omega | (simp [inR_t, inR_f] at *; omega))) (by (first | omega | (simp [inR_t, inR_f] at *; omega))) (by (first | omega | (simp [inR_t, inR_f] at *; omega)))) ?_ | refine Nm.mk (tmodN (by (first | omega | (simp [inR_t, inR_f] at *; omega)))) ?_ | refine Nm.mk (szS _) ?_ | refine Nm.mk (mi_eq _ _) ?_ | refine Nm.mk (ma_eq _ _) ?_ | refine Rq.mk (by first | (simp [dOwnL, dOwn] <;> fail) | (first | omega | (simp [inR_t, inR_f] at *; omega))) ?_ | refine And.intro (orderFast (by kernel_rfl)) ?_ | refine And.intro (by kernel_rfl) ?_ | refine Cl.mk (k1) ?_ | refine Cl.mk (k2) ?_ | refine Cl.pre (by simp only [shcLL_ints, shcLL_byts, shcLL_strs, Fetc.shcs, Gran.shcs, Mani.shcs, Name.shcs, Read.shcs, Segm.shcs]; rfl) ?_))
  exact Vs.Fin.mk (WkR.refl _) (.refl _)
theorem any26_ok {cs : List AV} (hc : IsC cs) : ∃ (cs' : List AV) (l : List Read), IsC cs' ∧ l.length + sumN Read.size l ≤ 400 ∧ FO 63 [O (.own cs)] [O (.own cs')] (Rs3 l) := by
  obtain ⟨c1, l, i1, -, hz, k1⟩ := draw26_ok hc
  obtain ⟨c2, x, i2, hx, -, k2⟩ := below_ok i1 10
  have hx := hx (by omega)
  by_cases x0 : x = 0
  · subst x0
    obtain ⟨c3, y, i3, -, k3⟩ := int_ok i2 [-1, 6, 0] (by decide) (by decide)
    obtain ⟨c4, n, i4, hn, k4⟩ := any_ok i3
    obtain ⟨c5, z, i5, -, k5⟩ := int_ok i4 [-1, 1001, 0] (by decide) (by decide)
    refine ⟨c5, _, i5, ?_, l26Any_a cs c1 c2 c3 c4 c5 l y z n hz k1 k2 k3 k4 k5⟩
    have e : Read.size ⟨y, n, z⟩ = strsSize n.parts := rfl
    rw [sumN_snoc]; simp; omega
  by_cases x1 : x = 1
  · subst x1
    refine ⟨c2, _, i2, ?_, l26Any_b cs c1 c2 l hz k1 k2⟩
    rw [sumN_append]; simp; omega
  · exact ⟨c2, _, i2, by omega, l26Any_c cs c1 c2 l x (by omega) k1 k2⟩
theorem is69 : FI 69 Tryz.f69 := ⟨⟨Tryz.f69, Tryz.func69, rfl, rfl, rfl, rfl⟩, rfl⟩
set_option maxRecDepth 20000 in
set_option maxHeartbeats 16000000 in
theorem l26Trio_a (l : List UInt8) (c0 c1 c2 c3 : List AV) (L : List Read) (w : Int) (n : Name) (hz : L.length = 0) (k0 : FO 59 [Ys false l] [Ys false l] (O (.own c0))) (k1 : FO 63 [O (.own c0)] [O (.own c1)] (Rs3 L)) (k2 : FO 62 [O (.own c1), I 5] [O (.own c2), I 5] (I w)) (k3 : FO 64 [O (.own c2)] [O (.own c3)] (A (Name.c true n))) : FO 69 [Ys false l] [Ys false l] (RIN L w n) := by
  refine fok envOk mixed is69 ⟨rfl, rfl, ?_⟩
  have f1 : decide ((L.length : Int) > 0) = false := by rw [hz]; rfl
  (repeat' ((conv => whnf); first | refine Br.tt ?_ | refine Br.ff ?_ | refine Br.pos (by assumption) ?_ | refine Br.neg (by assumption) ?_ | refine Br.bself ?_ | refine Br.dself ?_ | refine Br.iself ?_ | refine Nm.mk lenC ?_ | refine Nm.mk (wrapI (by (first | omega | (simp [inR_t, inR_f] at *; omega))) (by (first | omega | (simp [inR_t, inR_f] at *; omega)))) ?_ | refine Nm.mk (wrapQ (by (first | omega | (simp [inR_t, inR_f] at *; omega))) (by (first | omega | (simp [inR_t, inR_f] at *; omega))) (by (first | omega | (simp [inR_t, inR_f] at *; omega)))) ?_ | refine Nm.mk (tmodN (by (first | omega | (simp [inR_t, inR_f] at *; omega)))) ?_ | refine Nm.mk (szS _) ?_ | refine Nm.mk (mi_eq _ _) ?_ | refine Nm.mk (ma_eq _ _) ?_ | refine Rq.mk (by first | (simp [dOwnL, dOwn] <;> fail) | (first | omega | (simp [inR_t, inR_f] at *; omega))) ?_ | refine And.intro (orderFast (by kernel_rfl)) ?_ | refine And.intro (by kernel_rfl) ?_ | refine Cl.mk (k0) ?_ | refine Cl.mk (k1) ?_ | refine Cl.mk (k2) ?_ | refine Cl.mk (k3) ?_ | refine Cl.pre (by simp only [shcLL_ints, shcLL_byts, shcLL_strs, Fetc.shcs, Gran.shcs, Mani.shcs, Name.shcs, Read.shcs, Segm.shcs]; rfl) ?_))
  exact Vs.Fin.mk (WkR.refl _) (.refl _)
set_option maxRecDepth 20000 in
set_option maxHeartbeats 16000000 in
theorem l26Trio_b (l : List UInt8) (c0 c1 c2 c3 c4 : List AV) (L : List Read) (w : Int) (n : Name) (hz : 0 < L.length) (k0 : FO 59 [Ys false l] [Ys false l] (O (.own c0))) (k1 : FO 63 [O (.own c0)] [O (.own c1)] (Rs3 L)) (k2 : FO 62 [O (.own c1), I 5] [O (.own c2), I 5] (I w)) (k3 : FO 64 [O (.own c2)] [O (.own c3)] (A (Name.c true n))) (k4 : FO 128 [O (.own c3), I 2] [O (.own c4), I 2] (B false)) : FO 69 [Ys false l] [Ys false l] (RIN L w n) := by
  refine fok envOk mixed is69 ⟨rfl, rfl, ?_⟩
  have f1 : decide ((L.length : Int) > 0) = true := by simp; omega
  (repeat' ((conv => whnf); first | refine Br.tt ?_ | refine Br.ff ?_ | refine Br.pos (by assumption) ?_ | refine Br.neg (by assumption) ?_ | refine Br.bself ?_ | refine Br.dself ?_ | refine Br.iself ?_ | refine Nm.mk lenC ?_ | refine Nm.mk (wrapI (by (first | omega | (simp [inR_t, inR_f] at *; omega))) (by (first | omega | (simp [inR_t, inR_f] at *; omega)))) ?_ | refine Nm.mk (wrapQ (by (first | omega | (simp [inR_t, inR_f] at *; omega))) (by (first | omega | (simp [inR_t, inR_f] at *; omega))) (by (first | omega | (simp [inR_t, inR_f] at *; omega)))) ?_ | refine Nm.mk (tmodN (by (first | omega | (simp [inR_t, inR_f] at *; omega)))) ?_ | refine Nm.mk (szS _) ?_ | refine Nm.mk (mi_eq _ _) ?_ | refine Nm.mk (ma_eq _ _) ?_ | refine Rq.mk (by first | (simp [dOwnL, dOwn] <;> fail) | (first | omega | (simp [inR_t, inR_f] at *; omega))) ?_ | refine And.intro (orderFast (by kernel_rfl)) ?_ | refine And.intro (by kernel_rfl) ?_ | refine Cl.mk (k0) ?_ | refine Cl.mk (k1) ?_ | refine Cl.mk (k2) ?_ | refine Cl.mk (k3) ?_ | refine Cl.mk (k4) ?_ | refine Cl.pre (by simp only [shcLL_ints, shcLL_byts, shcLL_strs, Fetc.shcs, Gran.shcs, Mani.shcs, Name.shcs, Read.shcs, Segm.shcs]; rfl) ?_))
  exact Vs.Fin.mk (WkR.refl _) (.refl _)
set_option maxRecDepth 20000 in
set_option maxHeartbeats 16000000 in
theorem l26Trio_c (l : List UInt8) (c0 c1 c2 c3 c4 c5 c6 : List AV) (L : List Read) (w x : Int) (n : Name) (y : Read) (hl : L.length ≤ 1000) (hz : 0 < L.length) (hx : 0 ≤ x ∧ x < L.length) (hy : L[x.toNat]? = some y) (hys : strsSize y.name.parts ≤ 400) (k0 : FO 59 [Ys false l] [Ys false l] (O (.own c0))) (k1 : FO 63 [O (.own c0)] [O (.own c1)] (Rs3 L)) (k2 : FO 62 [O (.own c1), I 5] [O (.own c2), I 5] (I w)) (k3 : FO 64 [O (.own c2)] [O (.own c3)] (A (Name.c true n))) (k4 : FO 128 [O (.own c3), I 2] [O (.own c4), I 2] (B true)) (k5 : FO 62 [O (.own c4), I L.length] [O (.own c5), I L.length] (I x)) (b : Bool) (k6 : FO 128 [O (.own c5), I 2] [O (.own c6), I 2] (B b)) : FO 69 [Ys false l] [Ys false l] (RIN L w (if b then ⟨y.name.parts ++ [⟨#[113]⟩]⟩ else y.name)) := by
  refine fok envOk mixed is69 ⟨rfl, rfl, ?_⟩
  have f1 : decide ((L.length : Int) > 0) = true := by simp; omega
  have hC := s_l4Copy y.name (by omega)
  have hyl := strs_len hys
  cases b with
  | false =>
    (repeat' ((conv => whnf); first | refine Br.tt ?_ | refine Br.ff ?_ | refine Br.pos (by assumption) ?_ | refine Br.neg (by assumption) ?_ | refine Br.bself ?_ | refine Br.dself ?_ | refine Br.iself ?_ | refine Nm.mk lenC ?_ | refine Nm.mk (wrapI (by (first | omega | (simp [inR_t, inR_f] at *; omega))) (by (first | omega | (simp [inR_t, inR_f] at *; omega)))) ?_ | refine Nm.mk (wrapQ (by (first | omega | (simp [inR_t, inR_f] at *; omega))) (by (first | omega | (simp [inR_t, inR_f] at *; omega))) (by (first | omega | (simp [inR_t, inR_f] at *; omega)))) ?_ | refine Nm.mk (tmodN (by (first | omega | (simp [inR_t, inR_f] at *; omega)))) ?_ | refine Nm.mk (szS _) ?_ | refine Nm.mk (mi_eq _ _) ?_ | refine Nm.mk (ma_eq _ _) ?_ | refine Rq.mk (by first | (simp [dOwnL, dOwn] <;> fail) | (first | omega | (simp [inR_t, inR_f] at *; omega))) ?_ | refine And.intro (orderFast (by kernel_rfl)) ?_ | refine And.intro (by kernel_rfl) ?_ | refine Cl.mk (k0) ?_ | refine Cl.mk (k1) ?_ | refine Cl.mk (k2) ?_ | refine Cl.mk (k3) ?_ | refine Cl.mk (k4) ?_ | refine Cl.mk (k5) ?_ | refine El.mk (getV hy) ?_ | refine Cl.mk (hC) ?_ | refine Cl.mk (k6) ?_ | refine Cl.pre (by simp only [shcLL_ints, shcLL_byts, shcLL_strs, Fetc.shcs, Gran.shcs, Mani.shcs, Name.shcs, Read.shcs, Segm.shcs]; rfl) ?_))
    exact Vs.Fin.mk (WkR.refl _) (.refl _)
  | true =>
    (repeat' ((conv => whnf); first | refine Br.tt ?_ | refine Br.ff ?_ | refine Br.pos (by assumption) ?_ | refine Br.neg (by assumption) ?_ | refine Br.bself ?_ | refine Br.dself ?_ | refine Br.iself ?_ | refine Nm.mk lenC ?_ | refine Nm.mk (wrapI (by (first | omega | (simp [inR_t, inR_f] at *; omega))) (by (first | omega | (simp [inR_t, inR_f] at *; omega)))) ?_ | refine Nm.mk (wrapQ (by (first | omega | (simp [inR_t, inR_f] at *; omega))) (by (first | omega | (simp [inR_t, inR_f] at *; omega))) (by (first | omega | (simp [inR_t, inR_f] at *; omega)))) ?_ | refine Nm.mk (tmodN (by (first | omega | (simp [inR_t, inR_f] at *; omega)))) ?_ | refine Nm.mk (szS _) ?_ | refine Nm.mk (mi_eq _ _) ?_ | refine Nm.mk (ma_eq _ _) ?_ | refine Rq.mk (by first | (simp [dOwnL, dOwn] <;> fail) | (first | omega | (simp [inR_t, inR_f] at *; omega))) ?_ | refine And.intro (orderFast (by kernel_rfl)) ?_ | refine And.intro (by kernel_rfl) ?_ | refine Cl.mk (k0) ?_ | refine Cl.mk (k1) ?_ | refine Cl.mk (k2) ?_ | refine Cl.mk (k3) ?_ | refine Cl.mk (k4) ?_ | refine Cl.mk (k5) ?_ | refine El.mk (getV hy) ?_ | refine Cl.mk (hC) ?_ | refine Cl.mk (k6) ?_ | refine Rq.mk (by simp; omega) ?_ | refine Cl.pre (by simp only [shcLL_ints, shcLL_byts, shcLL_strs, Fetc.shcs, Gran.shcs, Mani.shcs, Name.shcs, Read.shcs, Segm.shcs]; rfl) ?_))
    refine Vs.Fin.mk (WkR.of (.keep (.keep (.sl1 ?_ .nil)))) (.refl _)
    simp
theorem trio26_ok (l : List UInt8) (hl : l.length ≤ 1048576) : ∃ (L : List Read) (w : Int) (n : Name), L.length + sumN Read.size L ≤ 400 ∧ strsSize n.parts ≤ 500 ∧ FO 69 [Ys false l] [Ys false l] (RIN L w n) := by
  obtain ⟨c0, i0, k0⟩ := new_ok l hl
  obtain ⟨c1, L, i1, hL, k1⟩ := any26_ok i0
  obtain ⟨c2, w, i2, -, -, k2⟩ := below_ok i1 5
  obtain ⟨c3, n, i3, hn, k3⟩ := any_ok i2
  by_cases hz : L.length = 0
  · exact ⟨L, w, n, hL, by omega, l26Trio_a l c0 c1 c2 c3 L w n hz k0 k1 k2 k3⟩
  obtain ⟨c4, b, i4, k4⟩ := once_ok i3 2
  cases b with
  | false => exact ⟨L, w, n, hL, by omega, l26Trio_b l c0 c1 c2 c3 c4 L w n (by omega) k0 k1 k2 k3 k4⟩
  | true =>
    obtain ⟨c5, x, i5, hx, -, k5⟩ := below_ok i4 L.length
    have hx := hx (by omega)
    have hxl : x.toNat < L.length := by omega
    have hy : L[x.toNat]? = some L[x.toNat] := List.getElem?_eq_getElem hxl
    have hys := (rd_len hL (r := L[x.toNat]) (List.getElem_mem _)).1
    obtain ⟨c6, b, i6, k6⟩ := once_ok i5 2
    refine ⟨L, w, _, hL, ?_, l26Trio_c l c0 c1 c2 c3 c4 c5 c6 L w x n L[x.toNat] (by omega) (by omega) hx hy hys k0 k1 k2 k3 k4 k5 b k6⟩
    split
    · have := strs_snoc L[x.toNat].name.parts ⟨#[113]⟩
      have e : (⟨#[113]⟩ : ByteArray).size = 1 := rfl
      simp only []; omega
    · omega
theorem is11 : FI 11 Tryz.f11 := ⟨⟨Tryz.f11, Tryz.func11, rfl, rfl, rfl, rfl⟩, rfl⟩
set_option maxRecDepth 20000 in
set_option maxHeartbeats 16000000 in
theorem DMay0 (l : List UInt8) (L : List Read) (w : Int) (n : Name) (k : FO 69 [Ys false l] [Ys false l] (RIN L w n)) : FO 11 [Ys false l] [Ys false l] (RIN L w n) := by
  refine fok envOk mixed is11 ⟨rfl, rfl, ?_⟩
  (repeat' ((conv => whnf); first | refine Br.tt ?_ | refine Br.ff ?_ | refine Br.pos (by assumption) ?_ | refine Br.neg (by assumption) ?_ | refine Br.bself ?_ | refine Br.dself ?_ | refine Br.iself ?_ | refine Nm.mk lenC ?_ | refine Nm.mk (wrapI (by (first | omega | (simp [inR_t, inR_f] at *; omega))) (by (first | omega | (simp [inR_t, inR_f] at *; omega)))) ?_ | refine Nm.mk (wrapQ (by (first | omega | (simp [inR_t, inR_f] at *; omega))) (by (first | omega | (simp [inR_t, inR_f] at *; omega))) (by (first | omega | (simp [inR_t, inR_f] at *; omega)))) ?_ | refine Nm.mk (tmodN (by (first | omega | (simp [inR_t, inR_f] at *; omega)))) ?_ | refine Nm.mk (szS _) ?_ | refine Nm.mk (mi_eq _ _) ?_ | refine Nm.mk (ma_eq _ _) ?_ | refine Rq.mk (by first | (simp [dOwnL, dOwn] <;> fail) | (first | omega | (simp [inR_t, inR_f] at *; omega))) ?_ | refine And.intro (orderFast (by kernel_rfl)) ?_ | refine And.intro (by kernel_rfl) ?_ | refine Cl.mk (k) ?_ | refine Cl.pre (by simp only [shcLL_ints, shcLL_byts, shcLL_strs, Fetc.shcs, Gran.shcs, Mani.shcs, Name.shcs, Read.shcs, Segm.shcs]; rfl) ?_))
  exact Vs.Fin.mk (WkR.refl _) (.refl _)
theorem is12 : FI 12 Tryz.f12 := ⟨⟨Tryz.f12, Tryz.func12, rfl, rfl, rfl, rfl⟩, rfl⟩
set_option maxRecDepth 20000 in
set_option maxHeartbeats 16000000 in
theorem DRem0 (l : List UInt8) (L : List Read) (w : Int) (n : Name) (k : FO 69 [Ys false l] [Ys false l] (RIN L w n)) : FO 12 [Ys false l] [Ys false l] (RIN L w n) := by
  refine fok envOk mixed is12 ⟨rfl, rfl, ?_⟩
  (repeat' ((conv => whnf); first | refine Br.tt ?_ | refine Br.ff ?_ | refine Br.pos (by assumption) ?_ | refine Br.neg (by assumption) ?_ | refine Br.bself ?_ | refine Br.dself ?_ | refine Br.iself ?_ | refine Nm.mk lenC ?_ | refine Nm.mk (wrapI (by (first | omega | (simp [inR_t, inR_f] at *; omega))) (by (first | omega | (simp [inR_t, inR_f] at *; omega)))) ?_ | refine Nm.mk (wrapQ (by (first | omega | (simp [inR_t, inR_f] at *; omega))) (by (first | omega | (simp [inR_t, inR_f] at *; omega))) (by (first | omega | (simp [inR_t, inR_f] at *; omega)))) ?_ | refine Nm.mk (tmodN (by (first | omega | (simp [inR_t, inR_f] at *; omega)))) ?_ | refine Nm.mk (szS _) ?_ | refine Nm.mk (mi_eq _ _) ?_ | refine Nm.mk (ma_eq _ _) ?_ | refine Rq.mk (by first | (simp [dOwnL, dOwn] <;> fail) | (first | omega | (simp [inR_t, inR_f] at *; omega))) ?_ | refine And.intro (orderFast (by kernel_rfl)) ?_ | refine And.intro (by kernel_rfl) ?_ | refine Cl.mk (k) ?_ | refine Cl.pre (by simp only [shcLL_ints, shcLL_byts, shcLL_strs, Fetc.shcs, Gran.shcs, Mani.shcs, Name.shcs, Read.shcs, Segm.shcs]; rfl) ?_))
  exact Vs.Fin.mk (WkR.refl _) (.refl _)
theorem is13 : FI 13 Tryz.f13 := ⟨⟨Tryz.f13, Tryz.func13, rfl, rfl, rfl, rfl⟩, rfl⟩
set_option maxRecDepth 20000 in
set_option maxHeartbeats 16000000 in
theorem DAny0 (l : List UInt8) (L : List Read) (w : Int) (n : Name) (hL : L.length + sumN Read.size L ≤ 400) (hn : strsSize n.parts ≤ 500) (k : FO 69 [Ys false l] [Ys false l] (RIN L w n)) : FO 13 [Ys false l] [Ys false l] (RRN L (remR L w n) n) := by
  refine fok envOk mixed is13 ⟨rfl, rfl, ?_⟩
  have hR := s_RemoveReader L w n (by omega) (by omega)
  (repeat' ((conv => whnf); first | refine Br.tt ?_ | refine Br.ff ?_ | refine Br.pos (by assumption) ?_ | refine Br.neg (by assumption) ?_ | refine Br.bself ?_ | refine Br.dself ?_ | refine Br.iself ?_ | refine Nm.mk lenC ?_ | refine Nm.mk (wrapI (by (first | omega | (simp [inR_t, inR_f] at *; omega))) (by (first | omega | (simp [inR_t, inR_f] at *; omega)))) ?_ | refine Nm.mk (wrapQ (by (first | omega | (simp [inR_t, inR_f] at *; omega))) (by (first | omega | (simp [inR_t, inR_f] at *; omega))) (by (first | omega | (simp [inR_t, inR_f] at *; omega)))) ?_ | refine Nm.mk (tmodN (by (first | omega | (simp [inR_t, inR_f] at *; omega)))) ?_ | refine Nm.mk (szS _) ?_ | refine Nm.mk (mi_eq _ _) ?_ | refine Nm.mk (ma_eq _ _) ?_ | refine Rq.mk (by first | (simp [dOwnL, dOwn] <;> fail) | (first | omega | (simp [inR_t, inR_f] at *; omega))) ?_ | refine And.intro (orderFast (by kernel_rfl)) ?_ | refine And.intro (by kernel_rfl) ?_ | refine Cl.mk (k) ?_ | refine Cl.mk (hR) ?_ | refine Cl.pre (by simp only [shcLL_ints, shcLL_byts, shcLL_strs, Fetc.shcs, Gran.shcs, Mani.shcs, Name.shcs, Read.shcs, Segm.shcs]; rfl) ?_))
  exact Vs.Fin.mk (WkR.refl _) (.refl _)
theorem is14 : FI 14 Tryz.f14 := ⟨⟨Tryz.f14, Tryz.func14, rfl, rfl, rfl, rfl⟩, rfl⟩
set_option maxRecDepth 20000 in
set_option maxHeartbeats 16000000 in
theorem DGra0 (l : List UInt8) (L : List Read) (w : Int) (n : Name) (k : FO 69 [Ys false l] [Ys false l] (RIN L w n)) : FO 14 [Ys false l] [Ys false l] (RII L 900 w) := by
  refine fok envOk mixed is14 ⟨rfl, rfl, ?_⟩
  (repeat' ((conv => whnf); first | refine Br.tt ?_ | refine Br.ff ?_ | refine Br.pos (by assumption) ?_ | refine Br.neg (by assumption) ?_ | refine Br.bself ?_ | refine Br.dself ?_ | refine Br.iself ?_ | refine Nm.mk lenC ?_ | refine Nm.mk (wrapI (by (first | omega | (simp [inR_t, inR_f] at *; omega))) (by (first | omega | (simp [inR_t, inR_f] at *; omega)))) ?_ | refine Nm.mk (wrapQ (by (first | omega | (simp [inR_t, inR_f] at *; omega))) (by (first | omega | (simp [inR_t, inR_f] at *; omega))) (by (first | omega | (simp [inR_t, inR_f] at *; omega)))) ?_ | refine Nm.mk (tmodN (by (first | omega | (simp [inR_t, inR_f] at *; omega)))) ?_ | refine Nm.mk (szS _) ?_ | refine Nm.mk (mi_eq _ _) ?_ | refine Nm.mk (ma_eq _ _) ?_ | refine Rq.mk (by first | (simp [dOwnL, dOwn] <;> fail) | (first | omega | (simp [inR_t, inR_f] at *; omega))) ?_ | refine And.intro (orderFast (by kernel_rfl)) ?_ | refine And.intro (by kernel_rfl) ?_ | refine Cl.mk (k) ?_ | refine Cl.pre (by simp only [shcLL_ints, shcLL_byts, shcLL_strs, Fetc.shcs, Gran.shcs, Mani.shcs, Name.shcs, Read.shcs, Segm.shcs]; rfl) ?_))
  exact Vs.Fin.mk (WkR.refl _) (.refl _)
theorem is8 : FI 8 Tryz.f8 := ⟨⟨Tryz.f8, Tryz.func8, rfl, rfl, rfl, rfl⟩, rfl⟩
set_option maxRecDepth 20000 in
set_option maxHeartbeats 16000000 in
theorem DAdd0 (l : List UInt8) (c0 c1 c2 c3 : List AV) (L : List Read) (x : Int) (n : Name) (k0 : FO 59 [Ys false l] [Ys false l] (O (.own c0))) (k1 : FO 63 [O (.own c0)] [O (.own c1)] (Rs3 L)) (k2 : FO 64 [O (.own c1)] [O (.own c2)] (A (Name.c true n))) (k3 : FO 62 [O (.own c2), I 7] [O (.own c3), I 7] (I x)) : FO 8 [Ys false l] [Ys false l] (RR1 L ⟨x, n, 0⟩) := by
  refine fok envOk mixed is8 ⟨rfl, rfl, ?_⟩
  (repeat' ((conv => whnf); first | refine Br.tt ?_ | refine Br.ff ?_ | refine Br.pos (by assumption) ?_ | refine Br.neg (by assumption) ?_ | refine Br.bself ?_ | refine Br.dself ?_ | refine Br.iself ?_ | refine Nm.mk lenC ?_ | refine Nm.mk (wrapI (by (first | omega | (simp [inR_t, inR_f] at *; omega))) (by (first | omega | (simp [inR_t, inR_f] at *; omega)))) ?_ | refine Nm.mk (wrapQ (by (first | omega | (simp [inR_t, inR_f] at *; omega))) (by (first | omega | (simp [inR_t, inR_f] at *; omega))) (by (first | omega | (simp [inR_t, inR_f] at *; omega)))) ?_ | refine Nm.mk (tmodN (by (first | omega | (simp [inR_t, inR_f] at *; omega)))) ?_ | refine Nm.mk (szS _) ?_ | refine Nm.mk (mi_eq _ _) ?_ | refine Nm.mk (ma_eq _ _) ?_ | refine Rq.mk (by first | (simp [dOwnL, dOwn] <;> fail) | (first | omega | (simp [inR_t, inR_f] at *; omega))) ?_ | refine And.intro (orderFast (by kernel_rfl)) ?_ | refine And.intro (by kernel_rfl) ?_ | refine Cl.mk (k0) ?_ | refine Cl.mk (k1) ?_ | refine Cl.mk (k2) ?_ | refine Cl.mk (k3) ?_ | refine Cl.pre (by simp only [shcLL_ints, shcLL_byts, shcLL_strs, Fetc.shcs, Gran.shcs, Mani.shcs, Name.shcs, Read.shcs, Segm.shcs]; rfl) ?_))
  exact Vs.Fin.mk (WkR.refl _) (.refl _)
theorem is17 : FI 17 Tryz.f17 := ⟨⟨Tryz.f17, Tryz.func17, rfl, rfl, rfl, rfl⟩, rfl⟩
set_option maxRecDepth 20000 in
set_option maxHeartbeats 16000000 in
theorem DEps0 (l : List UInt8) (c0 c1 c2 : List AV) (v x : Int) (hx : 0 ≤ x ∧ x < 12) (k0 : FO 59 [Ys false l] [Ys false l] (O (.own c0))) (k1 : FO 72 [O (.own c0)] [O (.own c1)] (I v)) (k2 : FO 62 [O (.own c1), I 12] [O (.own c2), I 12] (I x)) : FO 17 [Ys false l] [Ys false l] (II v (x - 1)) := by
  refine fok envOk mixed is17 ⟨rfl, rfl, ?_⟩
  (repeat' ((conv => whnf); first | refine Br.tt ?_ | refine Br.ff ?_ | refine Br.pos (by assumption) ?_ | refine Br.neg (by assumption) ?_ | refine Br.bself ?_ | refine Br.dself ?_ | refine Br.iself ?_ | refine Nm.mk lenC ?_ | refine Nm.mk (wrapI (by (first | omega | (simp [inR_t, inR_f] at *; omega))) (by (first | omega | (simp [inR_t, inR_f] at *; omega)))) ?_ | refine Nm.mk (wrapQ (by (first | omega | (simp [inR_t, inR_f] at *; omega))) (by (first | omega | (simp [inR_t, inR_f] at *; omega))) (by (first | omega | (simp [inR_t, inR_f] at *; omega)))) ?_ | refine Nm.mk (tmodN (by (first | omega | (simp [inR_t, inR_f] at *; omega)))) ?_ | refine Nm.mk (szS _) ?_ | refine Nm.mk (mi_eq _ _) ?_ | refine Nm.mk (ma_eq _ _) ?_ | refine Rq.mk (by first | (simp [dOwnL, dOwn] <;> fail) | (first | omega | (simp [inR_t, inR_f] at *; omega))) ?_ | refine And.intro (orderFast (by kernel_rfl)) ?_ | refine And.intro (by kernel_rfl) ?_ | refine Cl.mk (k0) ?_ | refine Cl.mk (k1) ?_ | refine Cl.mk (k2) ?_ | refine Cl.pre (by simp only [shcLL_ints, shcLL_byts, shcLL_strs, Fetc.shcs, Gran.shcs, Mani.shcs, Name.shcs, Read.shcs, Segm.shcs]; rfl) ?_))
  exact Vs.Fin.mk (WkR.refl _) (.refl _)
theorem is7 : FI 7 Tryz.f7 := ⟨⟨Tryz.f7, Tryz.func7, rfl, rfl, rfl, rfl⟩, rfl⟩
set_option maxRecDepth 20000 in
set_option maxHeartbeats 16000000 in
theorem DRds0 (l : List UInt8) (c0 c1 c2 c3 : List AV) (L : List Read) (x : Int) (n : Name) (k0 : FO 59 [Ys false l] [Ys false l] (O (.own c0))) (k1 : FO 60 [O (.own c0)] [O (.own c1)] (Rs3 L)) (k2 : FO 61 [O (.own c1)] [O (.own c2)] (A (Name.c true n))) (k3 : FO 62 [O (.own c2), I 4] [O (.own c3), I 4] (I x)) : FO 7 [Ys false l] [Ys false l] (RIN L x n) := by
  refine fok envOk mixed is7 ⟨rfl, rfl, ?_⟩
  (repeat' ((conv => whnf); first | refine Br.tt ?_ | refine Br.ff ?_ | refine Br.pos (by assumption) ?_ | refine Br.neg (by assumption) ?_ | refine Br.bself ?_ | refine Br.dself ?_ | refine Br.iself ?_ | refine Nm.mk lenC ?_ | refine Nm.mk (wrapI (by (first | omega | (simp [inR_t, inR_f] at *; omega))) (by (first | omega | (simp [inR_t, inR_f] at *; omega)))) ?_ | refine Nm.mk (wrapQ (by (first | omega | (simp [inR_t, inR_f] at *; omega))) (by (first | omega | (simp [inR_t, inR_f] at *; omega))) (by (first | omega | (simp [inR_t, inR_f] at *; omega)))) ?_ | refine Nm.mk (tmodN (by (first | omega | (simp [inR_t, inR_f] at *; omega)))) ?_ | refine Nm.mk (szS _) ?_ | refine Nm.mk (mi_eq _ _) ?_ | refine Nm.mk (ma_eq _ _) ?_ | refine Rq.mk (by first | (simp [dOwnL, dOwn] <;> fail) | (first | omega | (simp [inR_t, inR_f] at *; omega))) ?_ | refine And.intro (orderFast (by kernel_rfl)) ?_ | refine And.intro (by kernel_rfl) ?_ | refine Cl.mk (k0) ?_ | refine Cl.mk (k1) ?_ | refine Cl.mk (k2) ?_ | refine Cl.mk (k3) ?_ | refine Cl.pre (by simp only [shcLL_ints, shcLL_byts, shcLL_strs, Fetc.shcs, Gran.shcs, Mani.shcs, Name.shcs, Read.shcs, Segm.shcs]; rfl) ?_))
  exact Vs.Fin.mk (WkR.refl _) (.refl _)
end Go.Proofs.YtgcnbfplihjelaaGreatDoor
