/- Contracts of functions of the program: no statement of the seat is proved here. Each under the conditions that stand in it. -/
import Derived.Test.YtigkmijoefibiaaGreatAg
import Derived.Test.YtigkmijoefibiaaGreatM4
import Derived.Test.YtigkmijoefibiaaGreatSb
set_option linter.all false
namespace Go.Proofs.YtigkmijoefibiaaGreat
open Go.Vs Go.Proofs
theorem AD_sh {f : Nat} {args outs : List Arg} {a : Adve} (h : FO f args outs (AD a)) : FO f args outs (A (Adve.c false a)) := by
  have := sh_resN h
  rwa [Adve.shd] at this
theorem is113 : FI 113 Tryz.f113 := ⟨⟨Tryz.f113, Tryz.func113, rfl, rfl, rfl, rfl⟩, rfl⟩
set_option maxRecDepth 20000 in
set_option maxHeartbeats 16000000 in
theorem l20Any_a (cs c1 c2 c3 : List AV) (a : Adve) (y : Int) (k1 : FO 124 [O (.own cs)] [O (.own c1)] (AD a)) (k2 : FO 90 [O (.own c1), I 10] [O (.own c2), I 10] (I 0)) (k3 : FO 132 [O (.own c2), Is false [-1, 6]] [O (.own c3), Is false [-1, 6]] (I y)) : FO 113 [O (.own cs)] [O (.own c3)] (AD ⟨y, a.version, a.nbs, a.prefs⟩) := by
  refine fok envOk mixed is113 ⟨rfl, rfl, ?_⟩
  (repeat' ((conv => whnf); first | refine stp ?_ | refine Cl.mk (k1) ?_ | refine Cl.mk (k2) ?_ | refine Cl.eq k3 (by simp only [shcLL, shcL, Vs.shc]; rfl) ?_ | refine Cl.pre (by simp only [shcLL_ints, shcLL_byts, shcLL_strs, Adve.shcs, Data.shcs, Fetc.shcs, Gran.shcs, Keyy.shcs, Mani.shcs, Name.shcs, Read.shcs, Rout.shcs, Segm.shcs, TEnt.shcs]; rfl) ?_))
  exact Vs.Fin.mk (WkR.refl _) (.refl _)
set_option maxRecDepth 20000 in
set_option maxHeartbeats 16000000 in
theorem l20Any_b (cs c1 c2 c3 : List AV) (a : Adve) (y : Int) (k1 : FO 124 [O (.own cs)] [O (.own c1)] (AD a)) (k2 : FO 90 [O (.own c1), I 10] [O (.own c2), I 10] (I 1)) (k3 : FO 132 [O (.own c2), Is false [0, 1000, 1001]] [O (.own c3), Is false [0, 1000, 1001]] (I y)) : FO 113 [O (.own cs)] [O (.own c3)] (AD ⟨a.origin, y, a.nbs, a.prefs⟩) := by
  refine fok envOk mixed is113 ⟨rfl, rfl, ?_⟩
  (repeat' ((conv => whnf); first | refine stp ?_ | refine Cl.mk (k1) ?_ | refine Cl.mk (k2) ?_ | refine Cl.eq k3 (by simp only [shcLL, shcL, Vs.shc]; rfl) ?_ | refine Cl.pre (by simp only [shcLL_ints, shcLL_byts, shcLL_strs, Adve.shcs, Data.shcs, Fetc.shcs, Gran.shcs, Keyy.shcs, Mani.shcs, Name.shcs, Read.shcs, Rout.shcs, Segm.shcs, TEnt.shcs]; rfl) ?_))
  exact Vs.Fin.mk (WkR.refl _) (.refl _)
set_option maxRecDepth 20000 in
set_option maxHeartbeats 16000000 in
theorem l20Any_c (cs c1 c2 c3 : List AV) (a : Adve) (y : Int) (hn : a.nbs.length ≤ 6) (k1 : FO 124 [O (.own cs)] [O (.own c1)] (AD a)) (k2 : FO 90 [O (.own c1), I 10] [O (.own c2), I 10] (I 2)) (k3 : FO 90 [O (.own c2), I 7] [O (.own c3), I 7] (I y)) : FO 113 [O (.own cs)] [O (.own c3)] (AD ⟨a.origin, a.version, a.nbs ++ [y], a.prefs⟩) := by
  refine fok envOk mixed is113 ⟨rfl, rfl, ?_⟩
  (repeat' ((conv => whnf); first | refine stp ?_ | refine Cl.mk (k1) ?_ | refine Cl.mk (k2) ?_ | refine Cl.mk (k3) ?_ | refine Rq.mk (by simp; omega) ?_ | refine Cl.pre (by simp only [shcLL_ints, shcLL_byts, shcLL_strs, Adve.shcs, Data.shcs, Fetc.shcs, Gran.shcs, Keyy.shcs, Mani.shcs, Name.shcs, Read.shcs, Rout.shcs, Segm.shcs, TEnt.shcs]; rfl) ?_))
  refine Vs.Fin.mk (WkR.of (.keep (.keep (.sl1 ?_ (.refl _))))) (.refl _)
  simp
set_option maxRecDepth 20000 in
set_option maxHeartbeats 16000000 in
theorem l20Any_d (cs c1 c2 c3 : List AV) (a : Adve) (n : Name) (hn : a.prefs.length ≤ 3) (k1 : FO 124 [O (.own cs)] [O (.own c1)] (AD a)) (k2 : FO 90 [O (.own c1), I 10] [O (.own c2), I 10] (I 3)) (k3 : FO 191 [O (.own c2)] [O (.own c3)] (A (Name.c false n))) : FO 113 [O (.own cs)] [O (.own c3)] (AD ⟨a.origin, a.version, a.nbs, a.prefs ++ [n]⟩) := by
  refine fok envOk mixed is113 ⟨rfl, rfl, ?_⟩
  (repeat' ((conv => whnf); first | refine stp ?_ | refine Cl.mk (k1) ?_ | refine Cl.mk (k2) ?_ | refine Cl.mk (k3) ?_ | refine Rq.mk (by simp; omega) ?_ | refine Cl.pre (by simp only [shcLL_ints, shcLL_byts, shcLL_strs, Adve.shcs, Data.shcs, Fetc.shcs, Gran.shcs, Keyy.shcs, Mani.shcs, Name.shcs, Read.shcs, Rout.shcs, Segm.shcs, TEnt.shcs]; rfl) ?_))
  refine Vs.Fin.mk (WkR.of (.keep (.keep (.keep (.sl1 ?_ .nil))))) (.refl _)
  simp
set_option maxRecDepth 20000 in
set_option maxHeartbeats 16000000 in
theorem l20Any_e (cs c1 c2 : List AV) (a : Adve) (x : Int) (hx : 4 ≤ x) (k1 : FO 124 [O (.own cs)] [O (.own c1)] (AD a)) (k2 : FO 90 [O (.own c1), I 10] [O (.own c2), I 10] (I x)) : FO 113 [O (.own cs)] [O (.own c2)] (AD a) := by
  refine fok envOk mixed is113 ⟨rfl, rfl, ?_⟩
  have f0 : (x == 0) = false := by simp; omega
  have f1 : (x == 1) = false := by simp; omega
  have f2 : (x == 2) = false := by simp; omega
  have f3 : (x == 3) = false := by simp; omega
  (repeat' ((conv => whnf); first | refine stp ?_ | refine Cl.mk (k1) ?_ | refine Cl.mk (k2) ?_ | refine Cl.pre (by simp only [shcLL_ints, shcLL_byts, shcLL_strs, Adve.shcs, Data.shcs, Fetc.shcs, Gran.shcs, Keyy.shcs, Mani.shcs, Name.shcs, Read.shcs, Rout.shcs, Segm.shcs, TEnt.shcs]; rfl) ?_))
  exact Vs.Fin.mk (WkR.refl _) (.refl _)
theorem any20_ok {cs : List AV} (hc : IsC cs) : ∃ (cs' : List AV) (a : Adve), IsC cs' ∧ Adve.size a ≤ 300 ∧ FO 113 [O (.own cs)] [O (.own cs')] (A (Adve.c false a)) := by
  obtain ⟨c1, a, i1, hn, hp, hz, k1⟩ := adv20_ok hc
  have hz2 : a.nbs.length + (a.prefs.length + sumN Name.size a.prefs) ≤ 200 := hz
  obtain ⟨c2, x, i2, hx, -, k2⟩ := below_ok i1 10
  have hx := hx (by omega)
  by_cases x0 : x = 0
  · subst x0
    obtain ⟨c3, y, i3, -, k3⟩ := int_ok i2 [-1, 6] (by decide) (by decide)
    exact ⟨c3, ⟨y, a.version, a.nbs, a.prefs⟩, i3, (show a.nbs.length + (a.prefs.length + sumN Name.size a.prefs) ≤ 300 by omega), AD_sh (l20Any_a cs c1 c2 c3 a y k1 k2 k3)⟩
  by_cases x1 : x = 1
  · subst x1
    obtain ⟨c3, y, i3, -, k3⟩ := int_ok i2 [0, 1000, 1001] (by decide) (by decide)
    exact ⟨c3, ⟨a.origin, y, a.nbs, a.prefs⟩, i3, (show a.nbs.length + (a.prefs.length + sumN Name.size a.prefs) ≤ 300 by omega), AD_sh (l20Any_b cs c1 c2 c3 a y k1 k2 k3)⟩
  by_cases x2 : x = 2
  · subst x2
    obtain ⟨c3, y, i3, -, -, k3⟩ := below_ok i2 7
    exact ⟨c3, ⟨a.origin, a.version, a.nbs ++ [y], a.prefs⟩, i3, (show (a.nbs ++ [y]).length + (a.prefs.length + sumN Name.size a.prefs) ≤ 300 by simp; omega), AD_sh (l20Any_c cs c1 c2 c3 a y hn k1 k2 k3)⟩
  by_cases x3 : x = 3
  · subst x3
    obtain ⟨c3, n, i3, hs, k3⟩ := any_ok i2
    refine ⟨c3, ⟨a.origin, a.version, a.nbs, a.prefs ++ [n]⟩, i3, (show a.nbs.length + ((a.prefs ++ [n]).length + sumN Name.size (a.prefs ++ [n])) ≤ 300 from ?_), AD_sh (l20Any_d cs c1 c2 c3 a n hp k1 k2 (sh_Nm k3))⟩
    have e : Name.size n = strsSize n.parts := rfl
    rw [sumN_snoc]; simp; omega
  · exact ⟨c2, a, i2, by omega, AD_sh (l20Any_e cs c1 c2 a x (by omega) k1 k2)⟩
abbrev Ads (l : List Adve) : Arg := O (sl true 4 (l.map (Adve.c false)))
theorem is112 : FI 112 Tryz.f112 := ⟨⟨Tryz.f112, Tryz.func112, rfl, rfl, rfl, rfl⟩, rfl⟩
set_option maxRecDepth 20000 in
set_option maxHeartbeats 16000000 in
theorem l20Db0 (cs c1 : List AV) (C : Nat → List AV) (L : Nat → List Adve) (E : Nat → Adve) (k : Nat) (hk : k ≤ 6) (h0 : L 0 = []) (hL : ∀ j, L (j + 1) = (mrgA (L j) (E j)).1) (hsz : ∀ j, (L j).length + sumN Adve.size (L j) ≤ 201 * j) (hE : ∀ j, Adve.size (E j) ≤ 200) (k1 : FO 90 [O (.own cs), I 7] [O (.own (C 0)), I 7] (I k)) (k2 : ∀ j, FO 124 [O (.own (C j))] [O (.own (C (j + 1)))] (A (Adve.c false (E j)))) (k3 : FO 133 [O (.own (C k)), I 12] [O (.own c1), I 12] (B false)) : FO 112 [O (.own cs)] [O (.own c1)] (Ads (L k)) := by
  refine fok envOk mixed is112 ⟨rfl, rfl, ?_⟩
  have hm : ([] : List (List AV)) = (L 0).map (Adve.c false) := by rw [h0]; rfl
  (repeat' ((conv => whnf); first | refine stp ?_ | refine Cl.mk (k1) ?_ | refine Cl.pre (by simp only [shcLL_ints, shcLL_byts, shcLL_strs, Adve.shcs, Data.shcs, Fetc.shcs, Gran.shcs, Keyy.shcs, Mani.shcs, Name.shcs, Read.shcs, Rout.shcs, Segm.shcs, TEnt.shcs]; rfl) ?_))
  rw [hm]
  refine Lp.mk [.sl 0, .ex 0, .sl 3, .sl 4] (fun m σ => ∃ j, j + m = k ∧ σ = [Rf 0 0, Ex 0 (O (.own (C j))), Sa 3 (O (.sl true .unk 4 ((L j).map (Adve.c false)))), Sa 4 (I m)]) (k) _ (.cons (.refl _) (.cons (.refl _) (.cons (.top .nil) (.cons (.refl _) .nil)))) ⟨0, by simp, (by first | rfl | (simp only [zlen, zsum, Nat.zero_mul, Int.add_zero, Int.sub_zero, List.nil_append, markG]; rfl))⟩ ?_
  rintro m τ ⟨j, hj, rfl⟩
  have hz := hsz j
  have he := hE j
  have hn := hL j
  refine Br.dec (fun h => ?_) (fun h => ?_)
  · have hM := s_Merge (L j) (E j) (by omega)
    have k5 := k2 j
    rw [show mrgA (L j) (E j) = (L (j + 1), (mrgA (L j) (E j)).2) by rw [hn]] at hM
    generalize (mrgA (L j) (E j)).2 = bv at hM
    (repeat' ((conv => whnf); first | refine stp ?_ | refine Cl.mk (k5) ?_ | refine Cl.eq hM (congrArg (fun z => [O (.sl false .unk 4 z), A (Adve.c false (E j))]) (shcLL_Ad (L j))) ?_ | refine Cl.pre (by simp only [shcLL_ints, shcLL_byts, shcLL_strs, Adve.shcs, Data.shcs, Fetc.shcs, Gran.shcs, Keyy.shcs, Mani.shcs, Name.shcs, Read.shcs, Rout.shcs, Segm.shcs, TEnt.shcs]; rfl) ?_))
    refine Nx.intro (m - 1) (by omega) _ (WkS.weak _ _) ⟨j + 1, by omega, ?_⟩
    (repeat' (first | exact rfl | refine consE ?_ ?_ | refine entE ?_ | refine vI ?_ | refine vS ?_ | refine vT ?_ | refine vB ?_))
    omega
  · obtain rfl : j = k := by omega
    (repeat' ((conv => whnf); first | refine stp ?_ | refine Cl.mk (k3) ?_ | refine Cl.pre (by simp only [shcLL_ints, shcLL_byts, shcLL_strs, Adve.shcs, Data.shcs, Fetc.shcs, Gran.shcs, Keyy.shcs, Mani.shcs, Name.shcs, Read.shcs, Rout.shcs, Segm.shcs, TEnt.shcs]; rfl) ?_))
    exact Vs.Fin.mk (WkR.refl _) (.refl _)
set_option maxRecDepth 20000 in
set_option maxHeartbeats 16000000 in
theorem l20Db1 (cs c1 c2 : List AV) (a : Adve) (C : Nat → List AV) (L : Nat → List Adve) (E : Nat → Adve) (k : Nat) (hk : k ≤ 6) (h0 : L 0 = []) (hL : ∀ j, L (j + 1) = (mrgA (L j) (E j)).1) (hsz : ∀ j, (L j).length + sumN Adve.size (L j) ≤ 201 * j) (hE : ∀ j, Adve.size (E j) ≤ 200) (k1 : FO 90 [O (.own cs), I 7] [O (.own (C 0)), I 7] (I k)) (k2 : ∀ j, FO 124 [O (.own (C j))] [O (.own (C (j + 1)))] (A (Adve.c false (E j)))) (k3 : FO 133 [O (.own (C k)), I 12] [O (.own c1), I 12] (B true)) (k4 : FO 113 [O (.own c1)] [O (.own c2)] (A (Adve.c false a))) : FO 112 [O (.own cs)] [O (.own c2)] (Ads (L k ++ [a])) := by
  refine fok envOk mixed is112 ⟨rfl, rfl, ?_⟩
  have hm : ([] : List (List AV)) = (L 0).map (Adve.c false) := by rw [h0]; rfl
  (repeat' ((conv => whnf); first | refine stp ?_ | refine Cl.mk (k1) ?_ | refine Cl.pre (by simp only [shcLL_ints, shcLL_byts, shcLL_strs, Adve.shcs, Data.shcs, Fetc.shcs, Gran.shcs, Keyy.shcs, Mani.shcs, Name.shcs, Read.shcs, Rout.shcs, Segm.shcs, TEnt.shcs]; rfl) ?_))
  rw [hm]
  refine Lp.mk [.sl 0, .ex 0, .sl 3, .sl 4] (fun m σ => ∃ j, j + m = k ∧ σ = [Rf 0 0, Ex 0 (O (.own (C j))), Sa 3 (O (.sl true .unk 4 ((L j).map (Adve.c false)))), Sa 4 (I m)]) (k) _ (.cons (.refl _) (.cons (.refl _) (.cons (.top .nil) (.cons (.refl _) .nil)))) ⟨0, by simp, (by first | rfl | (simp only [zlen, zsum, Nat.zero_mul, Int.add_zero, Int.sub_zero, List.nil_append, markG]; rfl))⟩ ?_
  rintro m τ ⟨j, hj, rfl⟩
  have hz := hsz j
  have he := hE j
  have hn := hL j
  refine Br.dec (fun h => ?_) (fun h => ?_)
  · have hM := s_Merge (L j) (E j) (by omega)
    have k5 := k2 j
    rw [show mrgA (L j) (E j) = (L (j + 1), (mrgA (L j) (E j)).2) by rw [hn]] at hM
    generalize (mrgA (L j) (E j)).2 = bv at hM
    (repeat' ((conv => whnf); first | refine stp ?_ | refine Cl.mk (k5) ?_ | refine Cl.eq hM (congrArg (fun z => [O (.sl false .unk 4 z), A (Adve.c false (E j))]) (shcLL_Ad (L j))) ?_ | refine Cl.pre (by simp only [shcLL_ints, shcLL_byts, shcLL_strs, Adve.shcs, Data.shcs, Fetc.shcs, Gran.shcs, Keyy.shcs, Mani.shcs, Name.shcs, Read.shcs, Rout.shcs, Segm.shcs, TEnt.shcs]; rfl) ?_))
    refine Nx.intro (m - 1) (by omega) _ (WkS.weak _ _) ⟨j + 1, by omega, ?_⟩
    (repeat' (first | exact rfl | refine consE ?_ ?_ | refine entE ?_ | refine vI ?_ | refine vS ?_ | refine vT ?_ | refine vB ?_))
    omega
  · obtain rfl : j = k := by omega
    (repeat' ((conv => whnf); first | refine stp ?_ | refine Cl.mk (k3) ?_ | refine Cl.mk (k4) ?_ | refine Rq.mk (by simp; omega) ?_ | refine Cl.pre (by simp only [shcLL_ints, shcLL_byts, shcLL_strs, Adve.shcs, Data.shcs, Fetc.shcs, Gran.shcs, Keyy.shcs, Mani.shcs, Name.shcs, Read.shcs, Rout.shcs, Segm.shcs, TEnt.shcs]; rfl) ?_))
    refine Vs.Fin.mk (WkR.of (.sl1 ?_ .nil)) (.refl _)
    simp
theorem db20_ok {cs : List AV} (hc : IsC cs) : ∃ (cs' : List AV) (l : List Adve), IsC cs' ∧ l.length ≤ 2000 ∧ l.length + sumN Adve.size l ≤ 2000 ∧ FO 112 [O (.own cs)] [O (.own cs')] (Ads l) := by
  obtain ⟨c1, x, i1, hx, -, k1⟩ := below_ok hc 7
  have hx := hx (by omega)
  obtain ⟨k, rfl⟩ : ∃ k : Nat, x = k := ⟨x.toNat, by omega⟩
  obtain ⟨C, E, h0, h⟩ := draws (σ := List AV × List Adve) (χ := Adve) (P := fun s => IsC s.1) (R := fun s x s' => s'.2 = (mrgA s.2 x).1 ∧ Adve.size x ≤ 200 ∧ FO 124 [O (.own s.1)] [O (.own s'.1)] (A (Adve.c false x))) (fun s hs => by
    obtain ⟨c, a, i, -, -, hz, q⟩ := adv20_ok hs
    exact ⟨(c, (mrgA s.2 a).1), a, i, rfl, hz, AD_sh q⟩) (c1, []) i1
  have hsz : ∀ j, (C j).2.length + sumN Adve.size (C j).2 ≤ 201 * j := by
    intro j
    induction j with
    | zero => rw [h0]; simp [sumN]
    | succ j ih =>
      have h1 := mrg_size (C j).2 (E j)
      have h2 := (h j).2.2.1
      rw [(h j).2.1]; omega
  obtain ⟨c2, b, i2, k3⟩ := once_ok (h k).1 12
  have hk := hsz k
  cases b with
  | false => exact ⟨c2, _, i2, by omega, by omega, l20Db0 cs c2 (fun j => (C j).1) (fun j => (C j).2) E k (by omega) (by simp only [h0]) (fun j => (h j).2.1) hsz (fun j => (h j).2.2.1) (by simp only [h0]; exact k1) (fun j => (h j).2.2.2) k3⟩
  | true =>
    obtain ⟨c3, a, i3, ha, k4⟩ := any20_ok i2
    refine ⟨c3, _, i3, ?_, ?_, l20Db1 cs c2 c3 a (fun j => (C j).1) (fun j => (C j).2) E k (by omega) (by simp only [h0]) (fun j => (h j).2.1) hsz (fun j => (h j).2.2.1) (by simp only [h0]; exact k1) (fun j => (h j).2.2.2) k3 k4⟩
    · simp; omega
    · rw [sumN_snoc]; simp; omega
/-! Rows of a table, drawn: a table's entries put, the result shared -/
theorem te_in {l : List TEnt} {x : TEnt} {z : Nat} (hz : l.length + sumN TEnt.size l ≤ z) (h : x ∈ l) : strsSize x.name.parts ≤ z ∧ x.name.parts.length ≤ z := by
  obtain ⟨a, b, rfl⟩ := List.append_of_mem h
  rw [sumN_append] at hz
  simp only [sumN, List.length_append, List.length_cons] at hz
  have e : TEnt.size x = strsSize x.name.parts := rfl
  have := strs_len (l := x.name.parts) (k := strsSize x.name.parts) (Nat.le_refl _)
  omega
abbrev Tl (o : Bool) (l : List TEnt) : Arg := O (sl o 2 (l.map (TEnt.c false)))
def okTe (p : Option TEnt) (e : TEnt) : Bool := vName e.name && (match p with | none => true | some q => decide (cmpL q.name.parts e.name.parts < 0))
def tabG : Option TEnt → List TEnt → Bool
  | _, [] => true
  | p, e :: r => okTe p e && tabG (some e) r
def vTab (l : List TEnt) : Bool := tabG none l && decide (l.length ≤ 20)
theorem is222 : FI 222 Tryz.f222 := ⟨⟨Tryz.f222, Tryz.func222, rfl, rfl, rfl, rfl⟩, rfl⟩
set_option maxRecDepth 20000 in
set_option maxHeartbeats 16000000 in
theorem s_l6CopyS (l : List TEnt) (hz : l.length + sumN TEnt.size l ≤ 1048576) : FO 222 [Tl false l] [Tl false l] (Tl true l) := by
  refine fok envOk mixed is222 ⟨rfl, rfl, ?_⟩
  refine Lp.mk [.sl 0, .sl 3, .sl 4] (fun m σ => ∃ d r, l = d ++ r ∧ m = r.length ∧ σ = [Sa 0 (Tl false l), Sa 3 (O (.sl true .non 2 (d.map (TEnt.c false)))), Sa 4 (I d.length)]) (l.length) _ (WkS.weak _ _) ⟨[], l, rfl, rfl, (by first | rfl | (simp only [zlen, zsum, Nat.zero_mul, Int.add_zero, Int.sub_zero, List.nil_append, markG]; rfl))⟩ ?_
  rintro m τ ⟨d, r, rfl, rfl, rfl⟩
  refine Nm.mk lenC ?_
  cases r with
  | nil =>
    refine Br.neg (by simp) ?_
    (repeat' ((conv => whnf); first | refine stp ?_ | refine Br.mk (fun _ => ?_) (fun _ => ?_) ))
    exact Vs.Fin.mk (WkR.of (.sl1 (by simp) .nil)) (.refl _)
  | cons x r =>
    have hx := (te_in hz (x := x) (by simp)).1
    have hC := sh_Nm (s_l4Copy x.name (by omega))
    simp at hz
    refine Br.pos (by simp; omega) ?_
    (repeat' ((conv => whnf); first | refine stp ?_ | refine El.mk (getA rfl) ?_ | refine Cl.mk (hC) ?_ | refine Rq.mk (by simp; omega) ?_ | refine Cl.pre (by simp only [shcLL_ints, shcLL_byts, shcLL_strs, Adve.shcs, Data.shcs, Fetc.shcs, Gran.shcs, Keyy.shcs, Mani.shcs, Name.shcs, Read.shcs, Rout.shcs, Segm.shcs, TEnt.shcs]; rfl) ?_))
    refine Nx.intro r.length (by simp) _ (WkS.weak _ _) ⟨d ++ [x], r, by simp, rfl, ?_⟩
    (repeat' (first | exact rfl | refine consE ?_ ?_ | refine entE ?_ | refine vI ?_ | refine vS ?_ | refine vT ?_ | refine vB ?_))
    all_goals simp
def isN (n : Name) (e : TEnt) : Bool := decide (e.name = n)
theorem is223 : FI 223 Tryz.f223 := ⟨⟨Tryz.f223, Tryz.func223, rfl, rfl, rfl, rfl⟩, rfl⟩
set_option maxRecDepth 20000 in
set_option maxHeartbeats 16000000 in
theorem s_l6Find (l : List TEnt) (n : Name) (hz : l.length + sumN TEnt.size l ≤ 1048577) (hn : strsSize n.parts ≤ 1048577) : FO 223 [Tl false l, A (Name.c false n)] [Tl false l, A (Name.c false n)] (I (findI (isN n) l 0)) := by
  refine fok envOk mixed is223 ⟨rfl, rfl, ?_⟩
  have hnl := strs_len hn
  refine Lp.mk [.sl 0, .bx 3, .sl 3, .sl 5] (fun m σ => ∃ d r, l = d ++ r ∧ m = r.length ∧ d.any (isN n) = false ∧ σ = [Sa 0 (Tl false l), Bx 3 ((Name.c false n)), Pt 3, Sa 5 (I d.length)]) (l.length) _ (WkS.weak _ _) ⟨[], l, rfl, rfl, rfl, (by first | rfl | (simp only [zlen, zsum, Nat.zero_mul, Int.add_zero, Int.sub_zero, List.nil_append, markG]; rfl))⟩ ?_
  rintro m τ ⟨d, r, rfl, rfl, hd, rfl⟩
  refine Nm.mk lenC ?_
  cases r with
  | nil =>
    refine Br.neg (by simp) ?_
    (repeat' ((conv => whnf); first | refine stp ?_ | refine Br.mk (fun _ => ?_) (fun _ => ?_) ))
    refine Vs.Fin.mk (WkR.eq ?_) (.refl _)
    rw [findI_none (by simpa using hd)]
  | cons x r =>
    have hx := (te_in hz (x := x) (by simp)).2
    simp at hz
    refine Br.pos (by simp; omega) ?_
    (repeat' ((conv => whnf); first | refine stp ?_ | refine Br.mk (fun _ => ?_) (fun _ => ?_) | refine El.mk (getA rfl) ?_ | refine Cl.mk (s_EqualNames x.name n (by omega) (by omega)) ?_ | refine Cl.pre (by simp only [shcLL_ints, shcLL_byts, shcLL_strs, Adve.shcs, Data.shcs, Fetc.shcs, Gran.shcs, Keyy.shcs, Mani.shcs, Name.shcs, Read.shcs, Rout.shcs, Segm.shcs, TEnt.shcs]; rfl) ?_))
    all_goals first
      | (refine Nx.intro r.length (by simp) _ (WkS.weak _ _) ⟨d ++ [x], r, by simp, rfl, by simp_all [isN], ?_⟩; rw [len1]; rfl)
      | (refine Vs.Fin.mk (WkR.eq ?_) (.refl _); rw [findI_at hd (by simp_all [isN])]; simp)
theorem lastJ {α : Type} (d : List α) : d = [] ∨ ∃ d' q, d = d' ++ [q] := lastA d
theorem is224 : FI 224 Tryz.f224 := ⟨⟨Tryz.f224, Tryz.func224, rfl, rfl, rfl, rfl⟩, rfl⟩
set_option maxRecDepth 20000 in
set_option maxHeartbeats 16000000 in
theorem s_ValidTab (l : List TEnt) (hz : l.length + sumN TEnt.size l ≤ 1048577) : FO 224 [Tl false l] [Tl false l] (B (vTab l)) := by
  refine fok envOk mixed is224 ⟨rfl, rfl, ?_⟩
  refine Lp.mk [.sl 0, .sl 3] (fun m σ => ∃ d r, l = d ++ r ∧ m = r.length ∧ tabG none l = tabG d.getLast? r ∧ σ = [Sa 0 (Tl false l), Sa 3 (I d.length)]) (l.length) _ (WkS.weak _ _) ⟨[], l, rfl, rfl, rfl, (by first | rfl | (simp only [zlen, zsum, Nat.zero_mul, Int.add_zero, Int.sub_zero, List.nil_append, markG]; rfl))⟩ ?_
  rintro m τ ⟨d, r, hl, rfl, hd, rfl⟩
  have hy : l.length = d.length + r.length := by rw [hl]; simp
  cases r with
  | nil =>
    have f1 : decide (((d.length : Nat) : Int) < ((l.length : Nat) : Int)) = false := by simp at * <;> omega
    (repeat' ((conv => whnf); first | refine stp ?_ ))
    refine Vs.Fin.mk (WkR.eq ?_) (.refl _)
    simp [vTab, hd, tabG]
    omega
  | cons x r =>
    have hx := te_in hz (x := x) (by rw [hl]; simp)
    simp at hy
    have f1 : decide (((d.length : Nat) : Int) < ((l.length : Nat) : Int)) = true := by simp <;> omega
    rcases lastA d with rfl | ⟨d', q, rfl⟩
    · (repeat' ((conv => whnf); first | refine stp ?_ | refine Br.mk (fun _ => ?_) (fun _ => ?_) | refine El.mk (getH hl rfl) ?_ | refine Cl.mk (s_ValidName x.name (by omega)) ?_ | refine Cl.pre (by simp only [shcLL_ints, shcLL_byts, shcLL_strs, Adve.shcs, Data.shcs, Fetc.shcs, Gran.shcs, Keyy.shcs, Mani.shcs, Name.shcs, Read.shcs, Rout.shcs, Segm.shcs, TEnt.shcs]; rfl) ?_))
      all_goals first
        | (refine Vs.Fin.mk (WkR.eq ?_) (.refl _); rw [vTab, hd, tabG, show okTe (List.getLast? ([] : List TEnt)) x = false by first | (simp_all [okTe]; done) | (simp_all [okTe]; omega)]; rfl)
        | (refine Nx.intro r.length (by simp) _ (WkS.weak _ _) ⟨[x], r, by simp [hl], rfl, by rw [hd, tabG, show okTe (List.getLast? ([] : List TEnt)) x = true by simp_all [okTe]]; rfl, ?_⟩; rfl)
        | (exfalso; simp at * <;> omega)
    · have hl2 : l = d' ++ q :: (x :: r) := by rw [hl]; simp
      have hq := te_in hz (x := q) (by rw [hl]; simp)
      simp at hy
      (repeat' ((conv => whnf); first | refine stp ?_ | refine Br.mk (fun _ => ?_) (fun _ => ?_) | refine El.mk (getH hl rfl) ?_ | refine El.mk (getH hl2 (by simp)) ?_ | refine Cl.mk (s_ValidName x.name (by omega)) ?_ | refine Cl.mk (s_CompareNames q.name x.name (by omega) (by omega)) ?_ | refine Cl.pre (by simp only [shcLL_ints, shcLL_byts, shcLL_strs, Adve.shcs, Data.shcs, Fetc.shcs, Gran.shcs, Keyy.shcs, Mani.shcs, Name.shcs, Read.shcs, Rout.shcs, Segm.shcs, TEnt.shcs]; rfl) ?_))
      all_goals first
        | (refine Vs.Fin.mk (WkR.eq ?_) (.refl _); rw [vTab, hd, tabG, show okTe (List.getLast? (d' ++ [q])) x = false by first | (simp_all [okTe]; done) | (simp_all [okTe]; omega)]; rfl)
        | (refine Nx.intro r.length (by simp) _ (WkS.weak _ _) ⟨d' ++ [q] ++ [x], r, by simp [hl], rfl, by rw [hd, tabG, show okTe (List.getLast? (d' ++ [q])) x = true by simp_all [okTe]]; simp, ?_⟩; rw [len1 (d := d' ++ [q]) (x := x)]; rfl)
        | (exfalso; simp at * <;> omega)
end Go.Proofs.YtigkmijoefibiaaGreat
