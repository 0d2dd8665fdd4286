/- Contracts of functions of the program: no statement of the seat is proved here. Each under the conditions that stand in it. -/
import Derived.Test.YtgcnbfplihjelaaGreatDoorNb
import Derived.Test.YtgcnbfplihjelaaGreatDoorPc
import Derived.Test.YtgcnbfplihjelaaGreatDoorTc
import Derived.Test.YtgcnbfplihjelaaGreatDoorTd
set_option linter.all false
namespace Go.Proofs.YtgcnbfplihjelaaGreatDoor
open Go.Vs Go.Proofs
theorem sh_resN {f : Nat} {args outs : List Arg} {s : Shape} {vs : List AV} (h : FO f args outs (s, vs)) : FO f args outs (s, shcL vs) := FOk.wk h (.refl _) (.refl _) ⟨rfl, .inr (WkL.refl _)⟩
theorem sh_Nm {f : Nat} {args outs : List Arg} {n : Name} (h : FO f args outs (A (Name.c true n))) : FO f args outs (A (Name.c false n)) := by
  have := sh_resN h
  rwa [Name.shc] at this
abbrev Ks (o : Bool) (l : List Keyy) : Arg := O (sl o 2 (l.map (Keyy.c false)))
abbrev KB (l : List Keyy) (b : Bool) : Arg := (.tup [(false, 1), (false, 1)], [sl true 2 (l.map (Keyy.c false)), cB b])
def addK (l : List Keyy) (k : Keyy) : List Keyy := if vKeys (l ++ [k]) then l ++ [k] else l
theorem addK_size (l : List Keyy) (k : Keyy) : (addK l k).length + sumN Keyy.size (addK l k) ≤ l.length + sumN Keyy.size l + 1 + Keyy.size k := by
  unfold addK
  split
  · rw [sumN_snoc]; simp; omega
  · omega
theorem shcLL_K (l : List Keyy) : shcLL (l.map (Keyy.c false)) = l.map (Keyy.c false) := shcLL_map (fun _ => rfl) l
theorem is199 : FI 199 Tryz.f199 := ⟨⟨Tryz.f199, Tryz.func199, rfl, rfl, rfl, rfl⟩, rfl⟩
set_option maxRecDepth 20000 in
set_option maxHeartbeats 16000000 in
theorem s_l9Copy (l : List Keyy) (hz : l.length + sumN Keyy.size l ≤ 1048576) : FO 199 [Ks false l] [Ks false l] (Ks true l) := by
  refine fok envOk mixed is199 ⟨rfl, rfl, ?_⟩
  (repeat' ((conv => whnf); first | refine Br.tt ?_ | refine Br.ff ?_ | refine Br.pos (by assumption) ?_ | refine Br.neg (by assumption) ?_ | refine Br.bself ?_ | refine Br.dself ?_ | refine Br.iself ?_ | refine Nm.mk lenC ?_ | refine Nm.mk (wrapI (by (first | omega | (simp [inR_t, inR_f] at *; omega))) (by (first | omega | (simp [inR_t, inR_f] at *; omega)))) ?_ | refine Nm.mk (wrapQ (by (first | omega | (simp [inR_t, inR_f] at *; omega))) (by (first | omega | (simp [inR_t, inR_f] at *; omega))) (by (first | omega | (simp [inR_t, inR_f] at *; omega)))) ?_ | refine Nm.mk (tmodN (by (first | omega | (simp [inR_t, inR_f] at *; omega)))) ?_ | refine Nm.mk (szS _) ?_ | refine Nm.mk (mi_eq _ _) ?_ | refine Nm.mk (ma_eq _ _) ?_ | refine Rq.mk (by first | (simp [dOwnL, dOwn] <;> fail) | (first | omega | (simp [inR_t, inR_f] at *; omega))) ?_ | refine And.intro (orderFast (by kernel_rfl)) ?_ | refine And.intro (by kernel_rfl) ?_ ))
  refine Lp.mk [.sl 0, .sl 3, .sl 4] (fun m σ => ∃ d r, l = d ++ r ∧ m = r.length ∧ σ = [Sa 0 (Ks false l), Sa 3 (O (.sl true .non 2 (d.map (Keyy.c false)))), Sa 4 (I d.length)]) (l.length) _ (WkS.weak _ _) ⟨[], l, rfl, rfl, (by first | rfl | (simp only [zlen, zsum, Nat.zero_mul, Int.add_zero, Int.sub_zero, List.nil_append, markG]; rfl))⟩ ?_
  rintro m τ ⟨d, r, rfl, rfl, rfl⟩
  refine Nm.mk lenC ?_
  cases r with
  | nil =>
    refine Br.neg (by simp) ?_
    (repeat' ((conv => whnf); first | refine Br.tt ?_ | refine Br.ff ?_ | refine Br.pos (by assumption) ?_ | refine Br.neg (by assumption) ?_ | refine Br.bself ?_ | refine Br.dself ?_ | refine Br.iself ?_ | refine Br.mk (fun _ => ?_) (fun _ => ?_) | refine Nm.mk lenC ?_ | refine Nm.mk (wrapI (by (first | omega | (simp [inR_t, inR_f] at *; omega))) (by (first | omega | (simp [inR_t, inR_f] at *; omega)))) ?_ | refine Nm.mk (wrapQ (by (first | omega | (simp [inR_t, inR_f] at *; omega))) (by (first | omega | (simp [inR_t, inR_f] at *; omega))) (by (first | omega | (simp [inR_t, inR_f] at *; omega)))) ?_ | refine Nm.mk (tmodN (by (first | omega | (simp [inR_t, inR_f] at *; omega)))) ?_ | refine Nm.mk (szS _) ?_ | refine Nm.mk (mi_eq _ _) ?_ | refine Nm.mk (ma_eq _ _) ?_ | refine Rq.mk (by first | (simp [dOwnL, dOwn] <;> fail) | (first | omega | (simp [inR_t, inR_f] at *; omega))) ?_ | refine And.intro (orderFast (by kernel_rfl)) ?_ | refine And.intro (by kernel_rfl) ?_ ))
    exact Vs.Fin.mk (WkR.of (.sl1 (by simp) .nil)) (.refl _)
  | cons x r =>
    have hx := (ky_all hz (k := x) (by simp)).1
    simp at hz
    have hC := sh_Nm (s_l4Copy x.name (by omega))
    refine Br.pos (by simp; omega) ?_
    (repeat' ((conv => whnf); first | refine Br.tt ?_ | refine Br.ff ?_ | refine Br.pos (by assumption) ?_ | refine Br.neg (by assumption) ?_ | refine Br.bself ?_ | refine Br.dself ?_ | refine Br.iself ?_ | refine Nm.mk lenC ?_ | refine Nm.mk (wrapI (by (first | omega | (simp [inR_t, inR_f] at *; omega))) (by (first | omega | (simp [inR_t, inR_f] at *; omega)))) ?_ | refine Nm.mk (wrapQ (by (first | omega | (simp [inR_t, inR_f] at *; omega))) (by (first | omega | (simp [inR_t, inR_f] at *; omega))) (by (first | omega | (simp [inR_t, inR_f] at *; omega)))) ?_ | refine Nm.mk (tmodN (by (first | omega | (simp [inR_t, inR_f] at *; omega)))) ?_ | refine Nm.mk (szS _) ?_ | refine Nm.mk (mi_eq _ _) ?_ | refine Nm.mk (ma_eq _ _) ?_ | refine Rq.mk (by first | (simp [dOwnL, dOwn] <;> fail) | (first | omega | (simp [inR_t, inR_f] at *; omega))) ?_ | refine And.intro (orderFast (by kernel_rfl)) ?_ | refine And.intro (by kernel_rfl) ?_ | refine El.mk (getA rfl) ?_ | refine Cl.mk (hC) ?_ | refine Rq.mk (by simp; omega) ?_ | refine Cl.pre (by simp only [shcLL_ints, shcLL_byts, shcLL_strs, Data.shcs, Fetc.shcs, Gran.shcs, Keyy.shcs, Mani.shcs, Name.shcs, Read.shcs, Rout.shcs, Segm.shcs, TEnt.shcs]; rfl) ?_))
    refine Nx.intro r.length (by simp) _ (WkS.weak _ _) ⟨d ++ [x], r, by simp, rfl, ?_⟩
    (repeat' (first | exact rfl | refine consE ?_ ?_ | refine entE ?_ | refine vI ?_ | refine vS ?_ | refine vT ?_ | refine vB ?_))
    all_goals simp
theorem is174 : FI 174 Tryz.f174 := ⟨⟨Tryz.f174, Tryz.func174, rfl, rfl, rfl, rfl⟩, rfl⟩
set_option maxRecDepth 20000 in
set_option maxHeartbeats 16000000 in
theorem s_AddKey (l : List Keyy) (k : Keyy) (hz : l.length + sumN Keyy.size l + Keyy.size k ≤ 1048000) : FO 174 [Ks false l, A (Keyy.c false k)] [Ks false l, A (Keyy.c false k)] (KB (addK l k) (vKeys (l ++ [k]))) := by
  refine fok envOk mixed is174 ⟨rfl, rfl, ?_⟩
  have hs : Keyy.size k = strsSize k.name.parts := rfl
  have hz2 : (l ++ [k]).length + sumN Keyy.size (l ++ [k]) ≤ 1048576 := by rw [sumN_snoc]; simp; omega
  have hC := sh_Nm (s_l4Copy k.name (by omega))
  have hV := s_ValidKeys (l ++ [k]) hz2
  have hL := s_l9Copy l (by omega)
  cases hv : vKeys (l ++ [k]) with
  | true =>
    rw [hv] at hV
    rw [show addK l k = l ++ [k] by simp [addK, hv]]
    (repeat' ((conv => whnf); first | refine Br.tt ?_ | refine Br.ff ?_ | refine Br.pos (by assumption) ?_ | refine Br.neg (by assumption) ?_ | refine Br.bself ?_ | refine Br.dself ?_ | refine Br.iself ?_ | refine Nm.mk lenC ?_ | refine Nm.mk (wrapI (by (first | omega | (simp [inR_t, inR_f] at *; omega))) (by (first | omega | (simp [inR_t, inR_f] at *; omega)))) ?_ | refine Nm.mk (wrapQ (by (first | omega | (simp [inR_t, inR_f] at *; omega))) (by (first | omega | (simp [inR_t, inR_f] at *; omega))) (by (first | omega | (simp [inR_t, inR_f] at *; omega)))) ?_ | refine Nm.mk (tmodN (by (first | omega | (simp [inR_t, inR_f] at *; omega)))) ?_ | refine Nm.mk (szS _) ?_ | refine Nm.mk (mi_eq _ _) ?_ | refine Nm.mk (ma_eq _ _) ?_ | refine Rq.mk (by first | (simp [dOwnL, dOwn] <;> fail) | (first | omega | (simp [inR_t, inR_f] at *; omega))) ?_ | refine And.intro (orderFast (by kernel_rfl)) ?_ | refine And.intro (by kernel_rfl) ?_ | refine Cl.mk (hL) ?_ | refine Cl.mk (hC) ?_ | refine Rq.mk (by simp; omega) ?_ | refine Cl.eq hV (by simp [shcLL_append, shcLL_K, shcLL, shcL, Vs.shc]) ?_ | refine Cl.pre (by simp only [shcLL_ints, shcLL_byts, shcLL_strs, Data.shcs, Fetc.shcs, Gran.shcs, Keyy.shcs, Mani.shcs, Name.shcs, Read.shcs, Rout.shcs, Segm.shcs, TEnt.shcs]; rfl) ?_))
    refine Vs.Fin.mk (WkR.of (.sl1 ?_ (.refl _))) (.refl _)
    simp
  | false =>
    rw [hv] at hV
    rw [show addK l k = l by simp [addK, hv]]
    (repeat' ((conv => whnf); first | refine Br.tt ?_ | refine Br.ff ?_ | refine Br.pos (by assumption) ?_ | refine Br.neg (by assumption) ?_ | refine Br.bself ?_ | refine Br.dself ?_ | refine Br.iself ?_ | refine Nm.mk lenC ?_ | refine Nm.mk (wrapI (by (first | omega | (simp [inR_t, inR_f] at *; omega))) (by (first | omega | (simp [inR_t, inR_f] at *; omega)))) ?_ | refine Nm.mk (wrapQ (by (first | omega | (simp [inR_t, inR_f] at *; omega))) (by (first | omega | (simp [inR_t, inR_f] at *; omega))) (by (first | omega | (simp [inR_t, inR_f] at *; omega)))) ?_ | refine Nm.mk (tmodN (by (first | omega | (simp [inR_t, inR_f] at *; omega)))) ?_ | refine Nm.mk (szS _) ?_ | refine Nm.mk (mi_eq _ _) ?_ | refine Nm.mk (ma_eq _ _) ?_ | refine Rq.mk (by first | (simp [dOwnL, dOwn] <;> fail) | (first | omega | (simp [inR_t, inR_f] at *; omega))) ?_ | refine And.intro (orderFast (by kernel_rfl)) ?_ | refine And.intro (by kernel_rfl) ?_ | refine Cl.mk (hL) ?_ | refine Cl.mk (hC) ?_ | refine Rq.mk (by simp; omega) ?_ | refine Cl.eq hV (by simp [shcLL_append, shcLL_K, shcLL, shcL, Vs.shc]) ?_ | refine Cl.pre (by simp only [shcLL_ints, shcLL_byts, shcLL_strs, Data.shcs, Fetc.shcs, Gran.shcs, Keyy.shcs, Mani.shcs, Name.shcs, Read.shcs, Rout.shcs, Segm.shcs, TEnt.shcs]; rfl) ?_))
    exact Vs.Fin.mk (WkR.refl _) (.refl _)
def sKeyA : ByteArray := ⟨#[47, 107, 101, 121, 47, 97]⟩
def sKeyB : ByteArray := ⟨#[47, 107, 101, 121, 47, 98]⟩
def sZz : ByteArray := ⟨#[47, 122, 122]⟩
def rings4 : List ByteArray := [⟨#[47, 97, 47, 107, 101, 121]⟩, ⟨#[47, 98, 47, 107, 101, 121]⟩, ⟨#[47, 110, 101, 119, 115, 47, 107, 101, 121]⟩, ⟨#[47, 107, 101, 121, 47, 99]⟩]
theorem rings4_size : ∀ s ∈ rings4, s.size ≤ 9 := by decide
def ring0 : List Keyy := [⟨pN sKeyA, 100⟩, ⟨pN sKeyB, 101⟩]
theorem pN_key {s : ByteArray} {x : Int} : Keyy.size ⟨pN s, x⟩ ≤ 54 := pN_sz s
theorem is143 : FI 143 Tryz.f143 := ⟨⟨Tryz.f143, Tryz.func143, rfl, rfl, rfl, rfl⟩, rfl⟩
set_option maxRecDepth 20000 in
set_option maxHeartbeats 16000000 in
theorem l9Ring0 (cs : List AV) (C : Nat → List AV) (D : Nat → List AV) (L : Nat → List Keyy) (V : Nat → ByteArray) (X : Nat → Int) (k : Nat) (hk : k ≤ 3) (h0 : L 0 = ring0) (hL : ∀ j, L (j + 1) = addK (L j) ⟨pN (V j), 100 + X j⟩) (hsz : ∀ j, (L j).length + sumN Keyy.size (L j) ≤ 55 * (j + 2)) (hV : ∀ j, (V j).size ≤ 9) (hX : ∀ j, 0 ≤ X j ∧ X j < 8) (k1 : FO 62 [O (.own cs), I 4] [O (.own (C 0)), I 4] (I k)) (k2 : ∀ j, FO 91 [O (.own (C j)), Ss false rings4] [O (.own (D j)), Ss false rings4] (S (V j))) (k3 : ∀ j, FO 62 [O (.own (D j)), I 8] [O (.own (C (j + 1))), I 8] (I (X j))) : FO 143 [O (.own cs)] [O (.own (C k))] (Ks true (L k)) := by
  refine fok envOk mixed is143 ⟨rfl, rfl, ?_⟩
  have hA := s_l4Of sKeyA (by decide)
  have hB := s_l4Of sKeyB (by decide)
  have hm : [[cSs false (pN sKeyA).parts, cI 100], [cSs false (pN sKeyB).parts, cI 101]] = ring0.map (Keyy.c false) := rfl
  rw [← h0] at hm
  (repeat' ((conv => whnf); first | refine Br.tt ?_ | refine Br.ff ?_ | refine Br.pos (by assumption) ?_ | refine Br.neg (by assumption) ?_ | refine Br.bself ?_ | refine Br.dself ?_ | refine Br.iself ?_ | refine Nm.mk lenC ?_ | refine Nm.mk (wrapI (by (first | omega | (simp [inR_t, inR_f] at *; omega))) (by (first | omega | (simp [inR_t, inR_f] at *; omega)))) ?_ | refine Nm.mk (wrapQ (by (first | omega | (simp [inR_t, inR_f] at *; omega))) (by (first | omega | (simp [inR_t, inR_f] at *; omega))) (by (first | omega | (simp [inR_t, inR_f] at *; omega)))) ?_ | refine Nm.mk (tmodN (by (first | omega | (simp [inR_t, inR_f] at *; omega)))) ?_ | refine Nm.mk (szS _) ?_ | refine Nm.mk (mi_eq _ _) ?_ | refine Nm.mk (ma_eq _ _) ?_ | refine Rq.mk (by first | (simp [dOwnL, dOwn] <;> fail) | (first | omega | (simp [inR_t, inR_f] at *; omega))) ?_ | refine And.intro (orderFast (by kernel_rfl)) ?_ | refine And.intro (by kernel_rfl) ?_ | refine Cl.mk (hA) ?_ | refine Cl.mk (hB) ?_ | refine Cl.mk (k1) ?_ | refine Cl.pre (by simp only [shcLL_ints, shcLL_byts, shcLL_strs, Data.shcs, Fetc.shcs, Gran.shcs, Keyy.shcs, Mani.shcs, Name.shcs, Read.shcs, Rout.shcs, Segm.shcs, TEnt.shcs]; rfl) ?_))
  rw [hm]
  refine Lp.mk [.sl 0, .ex 0, .sl 3, .sl 4] (fun m σ => ∃ j, j + m = k ∧ σ = [Rf 0 0, Ex 0 (O (.own (C j))), Sa 3 (O (.sl true .unk 2 ((L j).map (Keyy.c false)))), Sa 4 (I m)]) (k) _ (.cons (.refl _) (.cons (.refl _) (.cons (.top .nil) (.cons (.refl _) .nil)))) ⟨0, by simp, (by first | rfl | (simp only [zlen, zsum, Nat.zero_mul, Int.add_zero, Int.sub_zero, List.nil_append, markG]; rfl))⟩ ?_
  rintro m τ ⟨j, hj, rfl⟩
  have hz := hsz j
  have hx := hX j
  have hn := hL j
  refine Br.dec (fun h => ?_) (fun h => ?_)
  · have hO := s_l4Of (V j) (by have := hV j; omega)
    have hAd := s_AddKey (L j) ⟨pN (V j), 100 + X j⟩ (by have := @pN_key (V j) (100 + X j); omega)
    rw [← hn] at hAd
    generalize vKeys (L j ++ [⟨pN (V j), 100 + X j⟩]) = bv at hAd
    (repeat' ((conv => whnf); first | refine Br.tt ?_ | refine Br.ff ?_ | refine Br.pos (by assumption) ?_ | refine Br.neg (by assumption) ?_ | refine Br.bself ?_ | refine Br.dself ?_ | refine Br.iself ?_ | refine Nm.mk lenC ?_ | refine Nm.mk (wrapI (by (first | omega | (simp [inR_t, inR_f] at *; omega))) (by (first | omega | (simp [inR_t, inR_f] at *; omega)))) ?_ | refine Nm.mk (wrapQ (by (first | omega | (simp [inR_t, inR_f] at *; omega))) (by (first | omega | (simp [inR_t, inR_f] at *; omega))) (by (first | omega | (simp [inR_t, inR_f] at *; omega)))) ?_ | refine Nm.mk (tmodN (by (first | omega | (simp [inR_t, inR_f] at *; omega)))) ?_ | refine Nm.mk (szS _) ?_ | refine Nm.mk (mi_eq _ _) ?_ | refine Nm.mk (ma_eq _ _) ?_ | refine Rq.mk (by first | (simp [dOwnL, dOwn] <;> fail) | (first | omega | (simp [inR_t, inR_f] at *; omega))) ?_ | refine And.intro (orderFast (by kernel_rfl)) ?_ | refine And.intro (by kernel_rfl) ?_ | refine Cl.eq (k2 j) (by simp only [shcLL, shcL, Vs.shc]; rfl) ?_ | refine Cl.mk (hO) ?_ | refine Cl.mk (k3 j) ?_ | refine Cl.eq hAd (congrArg (fun z => [O (.sl false .unk 2 z), A (Keyy.c false ⟨pN (V j), 100 + X j⟩)]) (shcLL_K (L j))) ?_ | refine Cl.pre (by simp only [shcLL_ints, shcLL_byts, shcLL_strs, Data.shcs, Fetc.shcs, Gran.shcs, Keyy.shcs, Mani.shcs, Name.shcs, Read.shcs, Rout.shcs, Segm.shcs, TEnt.shcs]; rfl) ?_))
    refine Nx.intro (m - 1) (by omega) _ (WkS.weak _ _) ⟨j + 1, by omega, ?_⟩
    (repeat' (first | exact rfl | refine consE ?_ ?_ | refine entE ?_ | refine vI ?_ | refine vS ?_ | refine vT ?_ | refine vB ?_))
    omega
  · obtain rfl : j = k := by omega
    (repeat' ((conv => whnf); first | refine Br.tt ?_ | refine Br.ff ?_ | refine Br.pos (by assumption) ?_ | refine Br.neg (by assumption) ?_ | refine Br.bself ?_ | refine Br.dself ?_ | refine Br.iself ?_ | refine Nm.mk lenC ?_ | refine Nm.mk (wrapI (by (first | omega | (simp [inR_t, inR_f] at *; omega))) (by (first | omega | (simp [inR_t, inR_f] at *; omega)))) ?_ | refine Nm.mk (wrapQ (by (first | omega | (simp [inR_t, inR_f] at *; omega))) (by (first | omega | (simp [inR_t, inR_f] at *; omega))) (by (first | omega | (simp [inR_t, inR_f] at *; omega)))) ?_ | refine Nm.mk (tmodN (by (first | omega | (simp [inR_t, inR_f] at *; omega)))) ?_ | refine Nm.mk (szS _) ?_ | refine Nm.mk (mi_eq _ _) ?_ | refine Nm.mk (ma_eq _ _) ?_ | refine Rq.mk (by first | (simp [dOwnL, dOwn] <;> fail) | (first | omega | (simp [inR_t, inR_f] at *; omega))) ?_ | refine And.intro (orderFast (by kernel_rfl)) ?_ | refine And.intro (by kernel_rfl) ?_ ))
    exact Vs.Fin.mk (WkR.refl _) (.refl _)
theorem ring_ok {cs : List AV} (hc : IsC cs) : ∃ (cs' : List AV) (l : List Keyy), IsC cs' ∧ 0 < l.length ∧ l.length + sumN Keyy.size l ≤ 275 ∧ FO 143 [O (.own cs)] [O (.own cs')] (Ks true l) := by
  obtain ⟨c1, x, i1, hx, -, k1⟩ := below_ok hc 4
  have hx := hx (by omega)
  obtain ⟨k, rfl⟩ : ∃ k : Nat, x = k := ⟨x.toNat, by omega⟩
  obtain ⟨C, X, h0, h⟩ := draws (σ := List AV × List Keyy) (χ := ByteArray × Int × List AV) (P := fun s => IsC s.1) (R := fun s x s' => s'.2 = addK s.2 ⟨pN x.1, 100 + x.2.1⟩ ∧ x.1.size ≤ 9 ∧ (0 ≤ x.2.1 ∧ x.2.1 < 8) ∧ FO 91 [O (.own s.1), Ss false rings4] [O (.own x.2.2), Ss false rings4] (S x.1) ∧ FO 62 [O (.own x.2.2), I 8] [O (.own s'.1), I 8] (I x.2.1)) (fun s hs => by
    obtain ⟨c, v, a, b, d⟩ := str_ok hs rings4 (by decide) (by decide)
    obtain ⟨c2, y, a2, b2, -, d2⟩ := below_ok a 8
    exact ⟨(c2, addK s.2 ⟨pN v, 100 + y⟩), (v, y, c), a2, rfl, rings4_size v b, b2 (by omega), d, d2⟩) (c1, ring0) i1
  have hsz : ∀ j, (C j).2.length + sumN Keyy.size (C j).2 ≤ 55 * (j + 2) := by
    intro j
    induction j with
    | zero =>
      rw [h0]
      have h1 := @pN_key sKeyA 100
      have h2 := @pN_key sKeyB 101
      simp only [ring0, sumN, List.length_cons, List.length_nil]
      omega
    | succ j ih =>
      have h1 := (h j).2.1
      have h2 := addK_size (C j).2 ⟨pN (X j).1, 100 + (X j).2.1⟩
      have h3 := @pN_key (X j).1 (100 + (X j).2.1)
      rw [h1]; omega
  have hpos : ∀ j, 0 < (C j).2.length := by
    intro j
    induction j with
    | zero => rw [h0]; show 0 < ring0.length; decide
    | succ j ih =>
      rw [(h j).2.1]
      unfold addK
      split
      · simp
      · exact ih
  have hk3 := hsz k
  refine ⟨_, _, (h k).1, hpos k, by omega, l9Ring0 cs (fun j => (C j).1) (fun j => (X j).2.2) (fun j => (C j).2) (fun j => (X j).1) (fun j => (X j).2.1) k (by omega) (by simp only [h0]) (fun j => (h j).2.1) hsz (fun j => (h j).2.2.1) (fun j => (h j).2.2.2.1) (by simp only [h0]; exact k1) (fun j => (h j).2.2.2.2.1) (fun j => (h j).2.2.2.2.2)⟩
theorem is89 : FI 89 Tryz.f89 := ⟨⟨Tryz.f89, Tryz.func89, rfl, rfl, rfl, rfl⟩, rfl⟩
set_option maxRecDepth 20000 in
set_option maxHeartbeats 16000000 in
theorem l9Any_a (cs c1 c2 c3 c4 : List AV) (l : List Keyy) (n : Name) (v : Int) (hz : l.length + sumN Keyy.size l ≤ 275) (k1 : FO 143 [O (.own cs)] [O (.own c1)] (Ks true l)) (k2 : FO 62 [O (.own c1), I 8] [O (.own c2), I 8] (I 0)) (k3 : FO 64 [O (.own c2)] [O (.own c3)] (A (Name.c true n))) (k4 : FO 72 [O (.own c3)] [O (.own c4)] (I v)) : FO 89 [O (.own cs)] [O (.own c4)] (Ks true (l ++ [⟨n, v⟩])) := by
  refine fok envOk mixed is89 ⟨rfl, rfl, ?_⟩
  have k3 := sh_Nm k3
  (repeat' ((conv => whnf); first | refine Br.tt ?_ | refine Br.ff ?_ | refine Br.pos (by assumption) ?_ | refine Br.neg (by assumption) ?_ | refine Br.bself ?_ | refine Br.dself ?_ | refine Br.iself ?_ | refine Nm.mk lenC ?_ | refine Nm.mk (wrapI (by (first | omega | (simp [inR_t, inR_f] at *; omega))) (by (first | omega | (simp [inR_t, inR_f] at *; omega)))) ?_ | refine Nm.mk (wrapQ (by (first | omega | (simp [inR_t, inR_f] at *; omega))) (by (first | omega | (simp [inR_t, inR_f] at *; omega))) (by (first | omega | (simp [inR_t, inR_f] at *; omega)))) ?_ | refine Nm.mk (tmodN (by (first | omega | (simp [inR_t, inR_f] at *; omega)))) ?_ | refine Nm.mk (szS _) ?_ | refine Nm.mk (mi_eq _ _) ?_ | refine Nm.mk (ma_eq _ _) ?_ | refine Rq.mk (by first | (simp [dOwnL, dOwn] <;> fail) | (first | omega | (simp [inR_t, inR_f] at *; omega))) ?_ | refine And.intro (orderFast (by kernel_rfl)) ?_ | refine And.intro (by kernel_rfl) ?_ | refine Cl.mk (k1) ?_ | refine Cl.mk (k2) ?_ | refine Cl.mk (k3) ?_ | refine Cl.mk (k4) ?_ | refine Rq.mk (by simp; omega) ?_ | refine Cl.pre (by simp only [shcLL_ints, shcLL_byts, shcLL_strs, Data.shcs, Fetc.shcs, Gran.shcs, Keyy.shcs, Mani.shcs, Name.shcs, Read.shcs, Rout.shcs, Segm.shcs, TEnt.shcs]; rfl) ?_))
  refine Vs.Fin.mk (WkR.of (.sl1 ?_ .nil)) (.refl _)
  simp
set_option maxRecDepth 20000 in
set_option maxHeartbeats 16000000 in
theorem l9Any_b (cs c1 c2 : List AV) (x : Keyy) (l : List Keyy) (hz : (x :: l).length + sumN Keyy.size (x :: l) ≤ 275) (k1 : FO 143 [O (.own cs)] [O (.own c1)] (Ks true (x :: l))) (k2 : FO 62 [O (.own c1), I 8] [O (.own c2), I 8] (I 1)) : FO 89 [O (.own cs)] [O (.own c2)] (Ks true (x :: l ++ [x])) := by
  refine fok envOk mixed is89 ⟨rfl, rfl, ?_⟩
  simp at hz
  (repeat' ((conv => whnf); first | refine Br.tt ?_ | refine Br.ff ?_ | refine Br.pos (by assumption) ?_ | refine Br.neg (by assumption) ?_ | refine Br.bself ?_ | refine Br.dself ?_ | refine Br.iself ?_ | refine Nm.mk lenC ?_ | refine Nm.mk (wrapI (by (first | omega | (simp [inR_t, inR_f] at *; omega))) (by (first | omega | (simp [inR_t, inR_f] at *; omega)))) ?_ | refine Nm.mk (wrapQ (by (first | omega | (simp [inR_t, inR_f] at *; omega))) (by (first | omega | (simp [inR_t, inR_f] at *; omega))) (by (first | omega | (simp [inR_t, inR_f] at *; omega)))) ?_ | refine Nm.mk (tmodN (by (first | omega | (simp [inR_t, inR_f] at *; omega)))) ?_ | refine Nm.mk (szS _) ?_ | refine Nm.mk (mi_eq _ _) ?_ | refine Nm.mk (ma_eq _ _) ?_ | refine Rq.mk (by first | (simp [dOwnL, dOwn] <;> fail) | (first | omega | (simp [inR_t, inR_f] at *; omega))) ?_ | refine And.intro (orderFast (by kernel_rfl)) ?_ | refine And.intro (by kernel_rfl) ?_ | refine Cl.mk (k1) ?_ | refine Cl.mk (k2) ?_ | refine El.mk (getA (d := []) rfl) ?_ | refine Rq.mk (by simp; omega) ?_ | refine Cl.pre (by simp only [shcLL_ints, shcLL_byts, shcLL_strs, Data.shcs, Fetc.shcs, Gran.shcs, Keyy.shcs, Mani.shcs, Name.shcs, Read.shcs, Rout.shcs, Segm.shcs, TEnt.shcs]; rfl) ?_))
  refine Vs.Fin.mk (WkR.of (.sl1 ?_ .nil)) (.refl _)
  simp
set_option maxRecDepth 20000 in
set_option maxHeartbeats 16000000 in
theorem l9Any_c (cs c1 c2 c3 : List AV) (x : Keyy) (l : List Keyy) (v : Int) (hz : (x :: l).length + sumN Keyy.size (x :: l) ≤ 275) (k1 : FO 143 [O (.own cs)] [O (.own c1)] (Ks true (x :: l))) (k2 : FO 62 [O (.own c1), I 8] [O (.own c2), I 8] (I 2)) (k3 : FO 93 [O (.own c2), Is false [0, 101, 2147483647]] [O (.own c3), Is false [0, 101, 2147483647]] (I v)) : FO 89 [O (.own cs)] [O (.own c3)] (Ks true (⟨x.name, v⟩ :: l)) := by
  refine fok envOk mixed is89 ⟨rfl, rfl, ?_⟩
  simp at hz
  (repeat' ((conv => whnf); first | refine Br.tt ?_ | refine Br.ff ?_ | refine Br.pos (by assumption) ?_ | refine Br.neg (by assumption) ?_ | refine Br.bself ?_ | refine Br.dself ?_ | refine Br.iself ?_ | refine Nm.mk lenC ?_ | refine Nm.mk (wrapI (by (first | omega | (simp [inR_t, inR_f] at *; omega))) (by (first | omega | (simp [inR_t, inR_f] at *; omega)))) ?_ | refine Nm.mk (wrapQ (by (first | omega | (simp [inR_t, inR_f] at *; omega))) (by (first | omega | (simp [inR_t, inR_f] at *; omega))) (by (first | omega | (simp [inR_t, inR_f] at *; omega)))) ?_ | refine Nm.mk (tmodN (by (first | omega | (simp [inR_t, inR_f] at *; omega)))) ?_ | refine Nm.mk (szS _) ?_ | refine Nm.mk (mi_eq _ _) ?_ | refine Nm.mk (ma_eq _ _) ?_ | refine Rq.mk (by first | (simp [dOwnL, dOwn] <;> fail) | (first | omega | (simp [inR_t, inR_f] at *; omega))) ?_ | refine And.intro (orderFast (by kernel_rfl)) ?_ | refine And.intro (by kernel_rfl) ?_ | refine Cl.mk (k1) ?_ | refine Cl.mk (k2) ?_ | refine Cl.eq k3 (by simp only [shcLL, shcL, Vs.shc]; rfl) ?_ | refine El.mk (getA (d := []) rfl) ?_ | refine Cl.pre (by simp only [shcLL_ints, shcLL_byts, shcLL_strs, Data.shcs, Fetc.shcs, Gran.shcs, Keyy.shcs, Mani.shcs, Name.shcs, Read.shcs, Rout.shcs, Segm.shcs, TEnt.shcs]; rfl) ?_))
  refine Vs.Fin.mk (WkR.of (.sl1 ?_ .nil)) (.refl _)
  simp [spliceAV]
set_option maxRecDepth 20000 in
set_option maxHeartbeats 16000000 in
theorem l9Any_d (cs c1 c2 : List AV) (l : List Keyy) (x : Int) (hx : 3 ≤ x) (k1 : FO 143 [O (.own cs)] [O (.own c1)] (Ks true l)) (k2 : FO 62 [O (.own c1), I 8] [O (.own c2), I 8] (I x)) : FO 89 [O (.own cs)] [O (.own c2)] (Ks true l) := by
  refine fok envOk mixed is89 ⟨rfl, rfl, ?_⟩
  have f1 : (x == 0) = false := by simp; omega
  have f2 : (x == 1) = false := by simp; omega
  have f3 : (x == 2) = false := by simp; omega
  (repeat' ((conv => whnf); first | refine Br.tt ?_ | refine Br.ff ?_ | refine Br.pos (by assumption) ?_ | refine Br.neg (by assumption) ?_ | refine Br.bself ?_ | refine Br.dself ?_ | refine Br.iself ?_ | refine Nm.mk lenC ?_ | refine Nm.mk (wrapI (by (first | omega | (simp [inR_t, inR_f] at *; omega))) (by (first | omega | (simp [inR_t, inR_f] at *; omega)))) ?_ | refine Nm.mk (wrapQ (by (first | omega | (simp [inR_t, inR_f] at *; omega))) (by (first | omega | (simp [inR_t, inR_f] at *; omega))) (by (first | omega | (simp [inR_t, inR_f] at *; omega)))) ?_ | refine Nm.mk (tmodN (by (first | omega | (simp [inR_t, inR_f] at *; omega)))) ?_ | refine Nm.mk (szS _) ?_ | refine Nm.mk (mi_eq _ _) ?_ | refine Nm.mk (ma_eq _ _) ?_ | refine Rq.mk (by first | (simp [dOwnL, dOwn] <;> fail) | (first | omega | (simp [inR_t, inR_f] at *; omega))) ?_ | refine And.intro (orderFast (by kernel_rfl)) ?_ | refine And.intro (by kernel_rfl) ?_ | refine Cl.mk (k1) ?_ | refine Cl.mk (k2) ?_ | refine Cl.pre (by simp only [shcLL_ints, shcLL_byts, shcLL_strs, Data.shcs, Fetc.shcs, Gran.shcs, Keyy.shcs, Mani.shcs, Name.shcs, Read.shcs, Rout.shcs, Segm.shcs, TEnt.shcs]; rfl) ?_))
  exact Vs.Fin.mk (WkR.refl _) (.refl _)
theorem any9_ok {cs : List AV} (hc : IsC cs) : ∃ (cs' : List AV) (l : List Keyy), IsC cs' ∧ l.length + sumN Keyy.size l ≤ 600 ∧ FO 89 [O (.own cs)] [O (.own cs')] (Ks true l) := by
  obtain ⟨c1, l, i1, hp, hz, k1⟩ := ring_ok hc
  obtain ⟨c2, x, i2, hx, -, k2⟩ := below_ok i1 8
  have hx := hx (by omega)
  by_cases x0 : x = 0
  · subst x0
    obtain ⟨c3, n, i3, hn, k3⟩ := any_ok i2
    obtain ⟨c4, v, i4, hv, k4⟩ := word_ok i3
    refine ⟨c4, _, i4, ?_, l9Any_a cs c1 c2 c3 c4 l n v hz k1 k2 k3 k4⟩
    have e : Keyy.size ⟨n, v⟩ = strsSize n.parts := rfl
    rw [sumN_snoc]; simp; omega
  cases l with
  | nil => simp at hp
  | cons y l =>
    have h1 := hz
    simp only [sumN, List.length_cons] at h1
    by_cases x1 : x = 1
    · subst x1
      refine ⟨c2, _, i2, ?_, l9Any_b cs c1 c2 y l hz k1 k2⟩
      rw [sumN_snoc]; simp only [sumN, List.length_append, List.length_cons, List.length_nil]; omega
    by_cases x2 : x = 2
    · subst x2
      obtain ⟨c3, v, i3, hv, k3⟩ := int_ok i2 [0, 101, 2147483647] (by decide) (by decide)
      refine ⟨c3, _, i3, ?_, l9Any_c cs c1 c2 c3 y l v hz k1 k2 k3⟩
      have e : Keyy.size ⟨y.name, v⟩ = Keyy.size y := rfl
      simp only [sumN, List.length_cons]; omega
    · exact ⟨c2, _, i2, by omega, l9Any_d cs c1 c2 (y :: l) x (by omega) k1 k2⟩
end Go.Proofs.YtgcnbfplihjelaaGreatDoor
