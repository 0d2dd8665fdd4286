/- Contracts of functions of the program: no statement of the seat is proved here. Each under the conditions that stand in it. -/
import Derived.Test.YtigkmijoefibiaaGreatTc
set_option linter.all false
namespace Go.Proofs.YtigkmijoefibiaaGreat
open Go.Vs Go.Proofs
theorem mul_b {x y : Int} (hx : 0 ≤ x ∧ x < 1000000) (hy : 0 ≤ y ∧ y < 2000) : 0 ≤ x * y ∧ x * y ≤ 2147483648 := by
  have h1 : x * y ≤ 1000000 * 2000 := Int.mul_le_mul (by omega) (by omega) hy.1 (by omega)
  exact ⟨Int.mul_nonneg hx.1 hy.1, by omega⟩
/-! Names, drawn -/
def names6 : List ByteArray := [⟨#[97]⟩, ⟨#[98]⟩, ⟨#[110, 101, 119, 115]⟩, ⟨#[120, 45, 49]⟩, ⟨#[49]⟩, ⟨#[107, 101, 121]⟩]
theorem names6_size : ∀ s ∈ names6, s.size ≤ 8 := by decide
theorem apName_size {n : Name} {s : ByteArray} : strsSize (apName n s).parts ≤ strsSize n.parts + 1 + s.size := by
  unfold apName
  split
  · have := strs_snoc n.parts s; simp only []; omega
  · omega
theorem is220 : FI 220 Tryz.f220 := ⟨⟨Tryz.f220, Tryz.func220, rfl, rfl, rfl, rfl⟩, rfl⟩
set_option maxRecDepth 20000 in
set_option maxHeartbeats 16000000 in
theorem l4Name0 (cs : List AV) (C : Nat → List AV) (N : Nat → Name) (X : Nat → ByteArray) (k : Nat) (hk : k ≤ 3) (h0 : N 0 = ⟨[]⟩) (hN : ∀ j, N (j + 1) = apName (N j) (X j)) (hsz : ∀ j, strsSize (N j).parts ≤ 9 * j) (hX : ∀ j, (X j).size ≤ 8) (k1 : FO 90 [O (.own cs), I 4] [O (.own (C 0)), I 4] (I k)) (hs : ∀ j, FO 175 [O (.own (C j)), Ss false names6] [O (.own (C (j + 1))), Ss false names6] (S (X j))) : FO 220 [O (.own cs)] [O (.own (C k))] (A (Name.c true (N k))) := by
  refine fok envOk mixed is220 ⟨rfl, rfl, ?_⟩
  (repeat' ((conv => whnf); first | refine stp ?_ | refine Cl.mk (k1) ?_ | refine Cl.pre (by simp only [shcLL_ints, shcLL_byts, shcLL_strs, Mani.shcs, Name.shcs, Segm.shcs]; rfl) ?_))
  refine Lp.mk [.sl 0, .ex 0, .bx 2, .sl 2, .bx 3, .sl 3, .sl 4] (fun m σ => ∃ j, j + m = k ∧ σ = [Rf 0 0, Ex 0 (O (.own (C j))), Bx 2 ([.sl true .isnil 0 []]), Pt 2, Bx 3 (Name.c true (N j)), Pt 3, Sa 4 (I m)]) (k) _ (.cons (.refl _) (.cons (.refl _) (.cons (.refl _) (.cons (.refl _) (.cons (.nils .nil) (.cons (.refl _) (.cons (.refl _) .nil))))))) ⟨0, by simp, (by first | rfl | (simp only [zlen, zsum, Nat.zero_mul, Int.add_zero, Int.sub_zero, List.nil_append, markG, h0]; rfl))⟩ ?_
  rintro m τ ⟨j, hj, rfl⟩
  have hz := hsz j
  have hx := hX j
  have hn := hN j
  refine Br.dec (fun h => ?_) (fun h => ?_)
  · (repeat' ((conv => whnf); first | refine stp ?_ | refine Cl.eq (hs j) (by simp only [shcLL, shcL, Vs.shc]; rfl) ?_ | refine Cl.mk (s_AppendPart (N j) (X j) (by omega) (by omega)) ?_ | refine Cl.pre (by simp only [shcLL_ints, shcLL_byts, shcLL_strs, Mani.shcs, Name.shcs, Segm.shcs]; rfl) ?_))
    refine Nx.intro (m - 1) (by omega) _ (WkS.weak _ _) ⟨j + 1, by omega, ?_⟩
    (repeat' (first | exact rfl | refine consE ?_ ?_ | refine entE ?_ | refine vI ?_ | refine vS ?_ | refine vT ?_ | refine vB ?_))
    · rw [hn]
    · omega
  · obtain rfl : j = k := by omega
    (repeat' ((conv => whnf); first | refine stp ?_ ))
    exact Vs.Fin.mk (WkR.refl _) (.refl _)
theorem name_ok {cs : List AV} (hc : IsC cs) : ∃ cs' n, IsC cs' ∧ strsSize n.parts ≤ 27 ∧ FO 220 [O (.own cs)] [O (.own cs')] (A (Name.c true n)) := by
  obtain ⟨c1, x, i1, hx, -, k1⟩ := below_ok hc 4
  have hx := hx (by omega)
  obtain ⟨k, rfl⟩ : ∃ k : Nat, x = k := ⟨x.toNat, by omega⟩
  obtain ⟨C, X, h0, h⟩ := draws (P := fun s : List AV × Name => IsC s.1) (R := fun s x s' => s'.2 = apName s.2 x ∧ x.size ≤ 8 ∧ FO 175 [O (.own s.1), Ss false names6] [O (.own s'.1), Ss false names6] (S x)) (fun s hs => by
    obtain ⟨c, v, a, b, d⟩ := str_ok hs names6 (by decide) (by decide)
    exact ⟨(c, apName s.2 v), v, a, rfl, names6_size v b, d⟩) (c1, ⟨[]⟩) i1
  have hsz : ∀ j, strsSize (C j).2.parts ≤ 9 * j := by
    intro j
    induction j with
    | zero => rw [h0]; simp [strsSize, sumN]
    | succ j ih =>
      have h1 := (h j).2.1
      have h2 := (h j).2.2.1
      have h3 := @apName_size (C j).2 (X j)
      rw [h1]; omega
  refine ⟨_, _, (h k).1, ?_, l4Name0 cs (fun j => (C j).1) (fun j => (C j).2) X k (by omega) (by simp only [h0]) (fun j => (h j).2.1) hsz (fun j => (h j).2.2.1) (by simp only [h0]; exact k1) (fun j => (h j).2.2.2)⟩
  have := hsz k
  omega
def odds6 : List ByteArray := [⟨#[]⟩, ⟨#[65]⟩, ⟨#[116, 111, 111, 108, 111, 110, 103, 120, 120]⟩, ⟨#[97, 47, 98]⟩, ⟨#[32]⟩, ⟨#[101, 105, 103, 104, 116, 56, 56, 56]⟩]
theorem odds6_size : ∀ s ∈ odds6, s.size ≤ 9 := by decide
def strM : ByteArray := ⟨#[109]⟩
theorem is191 : FI 191 Tryz.f191 := ⟨⟨Tryz.f191, Tryz.func191, rfl, rfl, rfl, rfl⟩, rfl⟩
set_option maxRecDepth 20000 in
set_option maxHeartbeats 16000000 in
theorem l4Any_a (cs c1 c2 c3 : List AV) (n : Name) (s : ByteArray) (hn : strsSize n.parts ≤ 27) (k1 : FO 220 [O (.own cs)] [O (.own c1)] (A (Name.c true n))) (k2 : FO 90 [O (.own c1), I 8] [O (.own c2), I 8] (I 0)) (k3 : FO 175 [O (.own c2), Ss false odds6] [O (.own c3), Ss false odds6] (S s)) : FO 191 [O (.own cs)] [O (.own c3)] (A (Name.c true ⟨n.parts ++ [s]⟩)) := by
  refine fok envOk mixed is191 ⟨rfl, rfl, ?_⟩
  have hl := strs_len hn
  (repeat' ((conv => whnf); first | refine stp ?_ | refine Cl.mk (k1) ?_ | refine Cl.mk (k2) ?_ | refine Cl.eq (k3) (by simp only [shcLL, shcL, Vs.shc]; rfl) ?_ | refine Cl.pre (by simp only [shcLL_ints, shcLL_byts, shcLL_strs, Mani.shcs, Name.shcs, Segm.shcs]; rfl) ?_))
  refine Vs.Fin.mk (WkR.of (.sl1 (by simp) .nil)) (.refl _)
set_option maxRecDepth 20000 in
set_option maxHeartbeats 16000000 in
theorem l4Any_b (cs c1 : List AV) (C : Nat → List AV) (X : Nat → Int) (n : Name) (k : Nat) (hn : strsSize n.parts ≤ 27) (hk : k ≤ 8) (hX : ∀ j, 0 ≤ X j ∧ X j < 3) (hlt : ∀ j, j < k → ((n.parts.length + j : Nat) : Int) < 5 + X j) (hge : ¬ ((n.parts.length + k : Nat) : Int) < 5 + X k) (k1 : FO 220 [O (.own cs)] [O (.own c1)] (A (Name.c true n))) (k2 : FO 90 [O (.own c1), I 8] [O (.own (C 0)), I 8] (I 1)) (k3 : ∀ j, FO 90 [O (.own (C j)), I 3] [O (.own (C (j + 1))), I 3] (I (X j))) : FO 191 [O (.own cs)] [O (.own (C (k + 1)))] (A (Name.c true ⟨n.parts ++ List.replicate k strM⟩)) := by
  refine fok envOk mixed is191 ⟨rfl, rfl, ?_⟩
  have hl := strs_len hn
  (repeat' ((conv => whnf); first | refine stp ?_ | refine Cl.mk (k1) ?_ | refine Cl.mk (k2) ?_ | refine Cl.pre (by simp only [shcLL_ints, shcLL_byts, shcLL_strs, Mani.shcs, Name.shcs, Segm.shcs]; rfl) ?_))
  refine Lp.mk [.sl 0, .ex 0, .bx 2, .sl 2, .bx 3, .sl 3] (fun m σ => ∃ j, j + m = k ∧ σ = [Rf 0 0, Ex 0 (O (.own (C j))), Bx 2 ([.sl true .isnil 0 []]), Pt 2, Bx 3 (Name.c true ⟨n.parts ++ List.replicate j strM⟩), Pt 3]) (k) _ (WkS.weak _ _) ⟨0, by simp, (by first | rfl | (simp only [zlen, zsum, Nat.zero_mul, Int.add_zero, Int.sub_zero, List.nil_append, markG, List.replicate_zero, List.append_nil]; rfl))⟩ ?_
  rintro m τ ⟨j, hj, rfl⟩
  have hxj := hX j
  have hll : ((n.parts ++ List.replicate j strM).map fun x => [cS x]).length = n.parts.length + j := by simp
  by_cases h : j < k
  · have h1 := hlt j h
    have f1 : decide (((n.parts.length + j : Nat) : Int) < 5 + X j) = true := by simpa using h1
    refine Nm.mk (by rw [hll]) ?_
    (repeat' ((conv => whnf); first | refine stp ?_ | refine Cl.mk (k3 j) ?_ | refine Cl.pre (by simp only [shcLL_ints, shcLL_byts, shcLL_strs, Mani.shcs, Name.shcs, Segm.shcs]; rfl) ?_))
    refine Nx.intro (m - 1) (by omega) _ (WkS.weak _ _) ⟨j + 1, by omega, ?_⟩
    (repeat' (first | exact rfl | refine consE ?_ ?_ | refine entE ?_ | refine vI ?_ | refine vS ?_ | refine vT ?_ | refine vB ?_))
    all_goals (simp [List.replicate_succ', strM])
  · obtain rfl : j = k := by omega
    have f1 : decide (((n.parts.length + j : Nat) : Int) < 5 + X j) = false := by simpa using hge
    refine Nm.mk (by rw [hll]) ?_
    (repeat' ((conv => whnf); first | refine stp ?_ | refine Cl.mk (k3 j) ?_ | refine Cl.pre (by simp only [shcLL_ints, shcLL_byts, shcLL_strs, Mani.shcs, Name.shcs, Segm.shcs]; rfl) ?_))
    exact Vs.Fin.mk (WkR.refl _) (.refl _)
set_option maxRecDepth 20000 in
set_option maxHeartbeats 16000000 in
theorem l4Any_c (cs c1 c2 : List AV) (n : Name) (x : Int) (hx : 2 ≤ x) (hn : strsSize n.parts ≤ 27) (k1 : FO 220 [O (.own cs)] [O (.own c1)] (A (Name.c true n))) (k2 : FO 90 [O (.own c1), I 8] [O (.own c2), I 8] (I x)) : FO 191 [O (.own cs)] [O (.own c2)] (A (Name.c true n)) := by
  refine fok envOk mixed is191 ⟨rfl, rfl, ?_⟩
  have f1 : (x == 0) = false := by simp; omega
  have f2 : (x == 1) = false := by simp; omega
  (repeat' ((conv => whnf); first | refine stp ?_ | refine Cl.mk (k1) ?_ | refine Cl.mk (k2) ?_ | refine Cl.pre (by simp only [shcLL_ints, shcLL_byts, shcLL_strs, Mani.shcs, Name.shcs, Segm.shcs]; rfl) ?_))
  exact Vs.Fin.mk (WkR.refl _) (.refl _)
theorem least {P : Nat → Prop} : ∀ n, P n → ∃ k, k ≤ n ∧ P k ∧ ∀ j, j < k → ¬ P j := by
  intro n
  induction n using Nat.strongRecOn with
  | _ n ih =>
    intro h
    by_cases h2 : ∃ j, j < n ∧ P j
    · obtain ⟨j, hj, hp⟩ := h2
      obtain ⟨k, k1, k2, k3⟩ := ih j hj hp
      exact ⟨k, by omega, k2, k3⟩
    · exact ⟨n, Nat.le_refl _, h, fun j hj hp => h2 ⟨j, hj, hp⟩⟩
theorem strs_rep (l : List ByteArray) : ∀ k, strsSize (l ++ List.replicate k strM) = strsSize l + 2 * k
  | 0 => by simp
  | k + 1 => by
    rw [List.replicate_succ', ← List.append_assoc, strs_snoc, strs_rep l k]
    have : strM.size = 1 := rfl
    omega
theorem any_ok {cs : List AV} (hc : IsC cs) : ∃ cs' n, IsC cs' ∧ strsSize n.parts ≤ 50 ∧ FO 191 [O (.own cs)] [O (.own cs')] (A (Name.c true n)) := by
  obtain ⟨c1, n, i1, hn, k1⟩ := name_ok hc
  obtain ⟨c2, x, i2, hx, -, k2⟩ := below_ok i1 8
  have hx := hx (by omega)
  by_cases h0 : x = 0
  · subst h0
    obtain ⟨c3, s, i3, hs, k3⟩ := str_ok i2 odds6 (by decide) (by decide)
    refine ⟨c3, _, i3, ?_, l4Any_a cs c1 c2 c3 n s hn k1 k2 k3⟩
    have := strs_snoc n.parts s
    have := odds6_size s hs
    simp only []; omega
  by_cases h1 : x = 1
  · subst h1
    obtain ⟨C, X, rfl, h⟩ := draws (P := IsC) (R := fun s x s' => (0 ≤ x ∧ x < 3) ∧ FO 90 [O (.own s), I 3] [O (.own s'), I 3] (I x)) (fun s hs => by
      obtain ⟨c, v, a, b, -, d⟩ := below_ok hs 3
      exact ⟨c, v, a, b (by omega), d⟩) c2 i2
    obtain ⟨k, hk, hp, hm⟩ := least (P := fun j => ¬ ((n.parts.length + j : Nat) : Int) < 5 + X j) 8 (by have := (h 8).2.1; omega)
    refine ⟨_, _, (h (k + 1)).1, ?_, l4Any_b cs c1 C X n k hn hk (fun j => (h j).2.1) (fun j hj => by have := hm j hj; omega) hp k1 k2 (fun j => (h j).2.2)⟩
    have := strs_rep n.parts k
    simp only []; omega
  · exact ⟨c2, n, i2, by omega, l4Any_c cs c1 c2 n x (by omega) hn k1 k2⟩
theorem new_ok (l : List UInt8) (hl : l.length ≤ 1048576) : ∃ cs, IsC cs ∧ FO 88 [Ys false l] [Ys false l] (O (.own cs)) := ⟨_, ⟨l, 0, _, rfl, by omega⟩, s_l1New0 l hl⟩
end Go.Proofs.YtigkmijoefibiaaGreat
