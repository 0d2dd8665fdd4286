/- Contracts of functions of the program: no statement of the seat is proved here. Each under the conditions that stand in it. -/
import Derived.Test.YtigkmijoefibiaaGreatDj
set_option linter.all false
namespace Go.Proofs.YtigkmijoefibiaaGreat
open Go.Vs Go.Proofs
def isV (a : Int) (e : TEnt) : Bool := e.value == a
def pT (d : List TEnt) (a : Int) : List Name := ((d.filter (isV a)).map (·.name)).take 4
theorem pT_len (d : List TEnt) (a : Int) : (pT d a).length ≤ 4 := by simp [pT]; omega
theorem pT_yes {d : List TEnt} {x : TEnt} {a : Int} (h : isV a x = true) (hl : (pT d a).length < 4) : pT (d ++ [x]) a = pT d a ++ [x.name] := by
  unfold pT at *
  rw [List.filter_append, List.map_append, List.take_append]
  simp only [List.length_take, List.length_map] at hl
  simp only [List.filter_cons, h, if_true, List.filter_nil, List.map_cons, List.map_nil, List.length_map]
  obtain ⟨k, hk⟩ : ∃ k, 4 - (d.filter (isV a)).length = k + 1 := ⟨4 - (d.filter (isV a)).length - 1, by omega⟩
  rw [hk]; simp
theorem pT_no {d : List TEnt} {x : TEnt} {a : Int} (h : isV a x = false) : pT (d ++ [x]) a = pT d a := by
  simp [pT, List.filter_append, List.filter_cons, h]
theorem pT_full {d r : List TEnt} {a : Int} (hl : ¬ (pT d a).length < 4) : pT (d ++ r) a = pT d a := by
  unfold pT at *
  rw [List.filter_append, List.map_append, List.take_append]
  simp only [List.length_take, List.length_map] at hl ⊢
  rw [show 4 - (d.filter (isV a)).length = 0 by omega]
  simp
def adv1 (n : Topo) (rows : List TEnt) (ver : Int) (a : Nat) : Adve := ⟨(a : Int), ver, nbs n (a : Int), pT rows (a : Int)⟩
def advT (n : Topo) (rows : List TEnt) (ver : Int) (j : Nat) : List Adve := (List.range j).map (adv1 n rows ver)
def advs (n : Topo) (rows : List TEnt) (ver : Int) : List Adve := if vTopo n && inR ver 1 1000 then advT n rows ver n.nodes.toNat else []
theorem advT_succ (n : Topo) (rows : List TEnt) (ver : Int) (j : Nat) : advT n rows ver (j + 1) = advT n rows ver j ++ [adv1 n rows ver j] := by simp [advT, List.range_succ]
theorem advT_len (n : Topo) (rows : List TEnt) (ver : Int) (j : Nat) : (advT n rows ver j).length = j := by simp [advT]
theorem te_len {l : List TEnt} {x : TEnt} {z : Nat} (hz : l.length + sumN TEnt.size l ≤ z) (h : x ∈ l) : strsSize x.name.parts ≤ z ∧ x.name.parts.length ≤ z := by
  have := sumN_mem TEnt.size h
  have h2 : TEnt.size x = strsSize x.name.parts := rfl
  have h3 : x.name.parts.length ≤ strsSize x.name.parts := by unfold strsSize; omega
  omega
theorem sumN_takeP {α : Type} (f : α → Nat) (l : List α) (k : Nat) : sumN f (l.take k) ≤ sumN f l := by
  have := sumN_append f (l.take k) (l.drop k)
  rw [List.take_append_drop] at this
  omega
theorem sumN_filterP (l : List TEnt) (p : TEnt → Bool) : sumN Name.size ((l.filter p).map (·.name)) ≤ sumN TEnt.size l := by
  induction l with
  | nil => simp [sumN]
  | cons x l ih =>
    rw [List.filter_cons]
    have e : TEnt.size x = Name.size x.name := rfl
    split
    · simp only [List.map_cons, sumN]; omega
    · simp only [sumN]; omega
theorem adv1_size (n : Topo) (rows : List TEnt) (ver : Int) (a : Nat) : Adve.size (adv1 n rows ver a) ≤ 10 + sumN TEnt.size rows := by
  have h1 := nbs_len n (a : Int)
  have h2 := pT_len rows (a : Int)
  have h3 : sumN Name.size (pT rows (a : Int)) ≤ sumN TEnt.size rows := Nat.le_trans (sumN_takeP _ _ _) (sumN_filterP _ _)
  simp only [Adve.size, adv1]; omega
theorem advT_size (n : Topo) (rows : List TEnt) (ver : Int) : ∀ j, sumN Adve.size (advT n rows ver j) ≤ j * (10 + sumN TEnt.size rows)
  | 0 => by simp [advT, sumN]
  | j + 1 => by
    have := advT_size n rows ver j
    have := adv1_size n rows ver j
    rw [advT_succ, sumN_snoc, Nat.add_mul]; omega
theorem advs_size (n : Topo) (rows : List TEnt) (ver : Int) (hz : rows.length + sumN TEnt.size rows ≤ 1048576) : (advs n rows ver).length + sumN Adve.size (advs n rows ver) ≤ 10485760 := by
  unfold advs
  split
  · rename_i h
    have h1 : vTopo n = true := by simp_all
    have hs2 : 1 ≤ n.nodes ∧ n.nodes ≤ 6 := by simp [vTopo, inR_t] at h1; omega
    have h2 := advT_size n rows ver n.nodes.toNat
    have h3 : n.nodes.toNat * (10 + sumN TEnt.size rows) ≤ 6 * (10 + sumN TEnt.size rows) := Nat.mul_le_mul_right _ (by omega)
    rw [advT_len]; omega
  · simp [sumN]
theorem advs_no {n : Topo} {rows : List TEnt} {ver : Int} (h : vTopo n = false ∨ inR ver 1 1000 = false) : advs n rows ver = [] := by
  unfold advs; rw [if_neg (by rcases h with h | h <;> simp [h])]
theorem is60 : FI 60 Tryz.f60 := ⟨⟨Tryz.f60, Tryz.func60, rfl, rfl, rfl, rfl⟩, rfl⟩
set_option maxRecDepth 20000 in
set_option maxHeartbeats 16000000 in
theorem s_AdvertisementsOf (n : Topo) (rows : List TEnt) (ver : Int) (hn : n.links.length ≤ 1048576) (hz : rows.length + sumN TEnt.size rows ≤ 1048576) : FO 60 [A (Topo.c false n), O (sl false 2 (rows.map (TEnt.c false))), I ver] [A (Topo.c false n), O (sl false 2 (rows.map (TEnt.c false))), I ver] (O (sl true 4 ((advs n rows ver).map (Adve.c true)))) := by
  refine fok envOk mixed is60 ⟨rfl, rfl, ?_⟩
  (repeat' ((conv => whnf); first | refine stp ?_ | refine Cl.mk (s_ValidTopology n (by omega)) ?_ | refine Cl.pre (by simp only [shcLL_ints, shcLL_byts, shcLL_strs, Adve.shcs, Fetc.shcs, Gran.shcs, Keyy.shcs, Link.shcs, Mani.shcs, Name.shcs, Read.shcs, Rout.shcs, Segm.shcs, TEnt.shcs, Topo.shcs]; rfl) ?_))
  refine Br.mk (fun a1 => ?_) (fun a1 => ?_)
  · rw [advs_no (.inl (by simpa using a1))]
    (repeat' ((conv => whnf); first | refine stp ?_ ))
    exact Vs.Fin.mk (WkR.of (.sl1 rfl .nil)) (.refl _)
  (repeat' ((conv => whnf); first | refine stp ?_ | refine Cl.mk (s_l1In _ _ _) ?_ | refine Cl.pre (by simp only [shcLL_ints, shcLL_byts, shcLL_strs, Adve.shcs, Fetc.shcs, Gran.shcs, Keyy.shcs, Link.shcs, Mani.shcs, Name.shcs, Read.shcs, Rout.shcs, Segm.shcs, TEnt.shcs, Topo.shcs]; rfl) ?_))
  refine Br.mk (fun a2 => ?_) (fun a2 => ?_)
  · rw [advs_no (.inr (by simpa using a2))]
    (repeat' ((conv => whnf); first | refine stp ?_ ))
    exact Vs.Fin.mk (WkR.of (.sl1 rfl .nil)) (.refl _)
  have hv : vTopo n = true := by simpa using a1
  have hs2 : 1 ≤ n.nodes ∧ n.nodes ≤ 6 := by simp [vTopo, inR_t] at hv; omega
  rw [show advs n rows ver = advT n rows ver n.nodes.toNat by unfold advs; rw [if_pos (by simp_all)]]
  refine Lp.mk [.sl 1, .sl 2, .bx 3, .sl 3, .sl 7, .sl 8] (fun m σ => ∃ j, j + m = n.nodes.toNat ∧ σ = [Sa 1 (O (sl false 2 (rows.map (TEnt.c false)))), Sa 2 (I ver), Bx 3 ((Topo.c false n)), Pt 3, Sa 7 (O (.sl true .non 4 ((advT n rows ver j).map (Adve.c true)))), Sa 8 (I j)]) (n.nodes.toNat) _ (WkS.weak _ _) ⟨0, by simp, (by first | rfl | (simp only [zlen, zsum, Nat.zero_mul, Int.add_zero, Int.sub_zero, List.nil_append, markG]; rfl))⟩ ?_
  rintro m τ ⟨j, hj, rfl⟩
  have hal := advT_len n rows ver j
  refine Br.dec (fun h => ?_) (fun h => ?_)
  · (repeat' ((conv => whnf); first | refine stp ?_ | refine Cl.mk (s_Neighbors n j (by omega)) ?_ | refine Cl.pre (by simp only [shcLL_ints, shcLL_byts, shcLL_strs, Adve.shcs, Fetc.shcs, Gran.shcs, Keyy.shcs, Link.shcs, Mani.shcs, Name.shcs, Read.shcs, Rout.shcs, Segm.shcs, TEnt.shcs, Topo.shcs]; rfl) ?_))
    refine Lp.mk [.sl 1, .sl 2, .bx 3, .sl 3, .sl 7, .sl 8, .bx 9, .sl 9, .sl 10] (fun m σ => ∃ d r, rows = d ++ r ∧ m = r.length ∧ σ = [Sa 1 (O (sl false 2 (rows.map (TEnt.c false)))), Sa 2 (I ver), Bx 3 ((Topo.c false n)), Pt 3, Sa 7 (O (.sl true .non 4 ((advT n rows ver j).map (Adve.c true)))), Sa 8 (I j), Bx 9 ([cI j, cI ver, cIs true (nbs n j), sl true 1 ((pT d j).map (Name.c true))]), Pt 9, Sa 10 (I d.length)]) (rows.length) _ (.cons (.refl _) (.cons (.refl _) (.cons (.refl _) (.cons (.refl _) (.cons (.refl _) (.cons (.refl _) (.cons (.keep (.keep (.keep (.nils .nil)))) (.cons (.refl _) (.cons (.refl _) .nil))))))))) ⟨[], rows, rfl, rfl, (by first | rfl | (simp only [zlen, zsum, Nat.zero_mul, Int.add_zero, Int.sub_zero, List.nil_append, markG]; rfl))⟩ ?_
    rintro m2 τ ⟨d, r, hd, rfl, rfl⟩
    have hy : rows.length = d.length + r.length := by rw [hd]; simp
    have hpl := pT_len d j
    cases r with
    | nil =>
      have f1 : decide (((d.length : Nat) : Int) < ((rows.length : Nat) : Int)) = false := by simp at * <;> omega
      (repeat' ((conv => whnf); first | refine stp ?_ ))
      refine Nx.intro (m - 1) (by omega) _ (WkS.weak _ _) ⟨j + 1, by omega, ?_⟩
      have e : rows = d := by simp [hd]
      (repeat' (first | exact rfl | refine consE ?_ ?_ | refine entE ?_ | refine vI ?_ | refine vS ?_ | refine vT ?_ | refine vB ?_))
      rw [advT_succ, adv1, e]; simp
    | cons x r =>
      simp at hy
      have hx := (te_len hz (x := x) (by rw [hd]; simp)).1
      have f1 : decide (((d.length : Nat) : Int) < ((rows.length : Nat) : Int)) = true := by simp <;> omega
      (repeat' ((conv => whnf); first | refine stp ?_ ))
      refine Br.mk (fun h2 => ?_) (fun h2 => ?_)
      · (repeat' ((conv => whnf); first | refine stp ?_ | refine El.mk (getH hd rfl) ?_ | refine Cl.pre (by simp only [shcLL_ints, shcLL_byts, shcLL_strs, Adve.shcs, Fetc.shcs, Gran.shcs, Keyy.shcs, Link.shcs, Mani.shcs, Name.shcs, Read.shcs, Rout.shcs, Segm.shcs, TEnt.shcs, Topo.shcs]; rfl) ?_))
        refine Br.mk (fun h3 => ?_) (fun h3 => ?_)
        · (repeat' ((conv => whnf); first | refine stp ?_ | refine El.mk (getH hd rfl) ?_ | refine Cl.mk (s_l4Copy x.name (by omega)) ?_ | refine Cl.pre (by simp only [shcLL_ints, shcLL_byts, shcLL_strs, Adve.shcs, Fetc.shcs, Gran.shcs, Keyy.shcs, Link.shcs, Mani.shcs, Name.shcs, Read.shcs, Rout.shcs, Segm.shcs, TEnt.shcs, Topo.shcs]; rfl) ?_))
          refine Nx.intro r.length (by simp) _ (WkS.weak _ _) ⟨d ++ [x], r, by simp [hd], rfl, ?_⟩
          (repeat' (first | exact rfl | refine consE ?_ ?_ | refine entE ?_ | refine vI ?_ | refine vS ?_ | refine vT ?_ | refine vB ?_))
          · rw [pT_yes h3 (by simp at h2; omega)]; simp
          · simp
        · (repeat' ((conv => whnf); first | refine stp ?_ ))
          refine Nx.intro r.length (by simp) _ (WkS.weak _ _) ⟨d ++ [x], r, by simp [hd], rfl, ?_⟩
          (repeat' (first | exact rfl | refine consE ?_ ?_ | refine entE ?_ | refine vI ?_ | refine vS ?_ | refine vT ?_ | refine vB ?_))
          · rw [pT_no h3]
          · simp
      · (repeat' ((conv => whnf); first | refine stp ?_ ))
        refine Nx.intro (m - 1) (by omega) _ (WkS.weak _ _) ⟨j + 1, by omega, ?_⟩
        (repeat' (first | exact rfl | refine consE ?_ ?_ | refine entE ?_ | refine vI ?_ | refine vS ?_ | refine vT ?_ | refine vB ?_))
        rw [advT_succ, adv1, hd, pT_full (by simp at h2; omega)]; simp
  · obtain rfl : j = n.nodes.toNat := by omega
    (repeat' ((conv => whnf); first | refine stp ?_ ))
    exact Vs.Fin.mk (WkR.of (.sl1 rfl .nil)) (.refl _)
theorem is56 : FI 56 Tryz.f56 := ⟨⟨Tryz.f56, Tryz.func56, rfl, rfl, rfl, rfl⟩, rfl⟩
set_option maxRecDepth 20000 in
set_option maxHeartbeats 16000000 in
theorem i_AdvertisementsOf (n : Topo) (rows : List TEnt) (ver : Int) (hn : n.links.length ≤ 1048576) (hz : rows.length + sumN TEnt.size rows ≤ 1048576) : FO 56 [A (Topo.c false n), O (sl false 2 (rows.map (TEnt.c false))), I ver] [A (Topo.c false n), O (sl false 2 (rows.map (TEnt.c false))), I ver] (O (sl true 4 ((advs n rows ver).map (Adve.c true)))) := by
  refine fok envOk mixed is56 ⟨rfl, rfl, ?_⟩
  (repeat' ((conv => whnf); first | refine stp ?_ | refine Cl.mk (i_ValidTopology n (by omega)) ?_ | refine Cl.pre (by simp only [shcLL_ints, shcLL_byts, shcLL_strs, Adve.shcs, Fetc.shcs, Gran.shcs, Keyy.shcs, Link.shcs, Mani.shcs, Name.shcs, Read.shcs, Rout.shcs, Segm.shcs, TEnt.shcs, Topo.shcs]; rfl) ?_))
  refine Br.mk (fun a1 => ?_) (fun a1 => ?_)
  · rw [advs_no (.inl (by simpa using a1))]
    (repeat' ((conv => whnf); first | refine stp ?_ ))
    exact Vs.Fin.mk (WkR.of (.nils .nil)) (.refl _)
  (repeat' ((conv => whnf); first | refine stp ?_ | refine Cl.mk (i_InRange _ _ _) ?_ | refine Cl.pre (by simp only [shcLL_ints, shcLL_byts, shcLL_strs, Adve.shcs, Fetc.shcs, Gran.shcs, Keyy.shcs, Link.shcs, Mani.shcs, Name.shcs, Read.shcs, Rout.shcs, Segm.shcs, TEnt.shcs, Topo.shcs]; rfl) ?_))
  refine Br.mk (fun a2 => ?_) (fun a2 => ?_)
  · rw [advs_no (.inr (by simpa using a2))]
    (repeat' ((conv => whnf); first | refine stp ?_ ))
    exact Vs.Fin.mk (WkR.of (.nils .nil)) (.refl _)
  have hv : vTopo n = true := by simpa using a1
  have hs2 : 1 ≤ n.nodes ∧ n.nodes ≤ 6 := by simp [vTopo, inR_t] at hv; omega
  rw [show advs n rows ver = advT n rows ver n.nodes.toNat by unfold advs; rw [if_pos (by simp_all)]]
  (repeat' ((conv => whnf); first | refine stp ?_ ))
  refine Lp.mk [.sl 1, .sl 2, .bx 3, .sl 3, .sl 7, .sl 22, .sl 23] (fun m σ => ∃ j, j + m = n.nodes.toNat ∧ σ = [Sa 1 (O (sl false 2 (rows.map (TEnt.c false)))), Sa 2 (I ver), Bx 3 ((Topo.c false n)), Pt 3, Sa 7 (O (.sl true .non 4 ((advT n rows ver j).map (Adve.c true)))), Sa 22 (I n.nodes), Sa 23 (I j)]) (n.nodes.toNat) _ (WkS.weak _ _) ⟨0, by simp, (by first | rfl | (simp only [zlen, zsum, Nat.zero_mul, Int.add_zero, Int.sub_zero, List.nil_append, markG]; rfl))⟩ ?_
  rintro m τ ⟨j, hj, rfl⟩
  have hal := advT_len n rows ver j
  refine Br.dec (fun h => ?_) (fun h => ?_)
  · (repeat' ((conv => whnf); first | refine stp ?_ | refine Cl.mk (i_Neighbors n j (by omega)) ?_ | refine Cl.pre (by simp only [shcLL_ints, shcLL_byts, shcLL_strs, Adve.shcs, Fetc.shcs, Gran.shcs, Keyy.shcs, Link.shcs, Mani.shcs, Name.shcs, Read.shcs, Rout.shcs, Segm.shcs, TEnt.shcs, Topo.shcs]; rfl) ?_))
    refine Lp.mk [.sl 1, .sl 2, .bx 3, .sl 3, .sl 7, .sl 8, .bx 9, .sl 9, .sl 22, .sl 23, .sl 32, .sl 33, .sl 34] (fun m σ => ∃ d r, rows = d ++ r ∧ m = r.length ∧ σ = [Sa 1 (O (sl false 2 (rows.map (TEnt.c false)))), Sa 2 (I ver), Bx 3 ((Topo.c false n)), Pt 3, Sa 7 (O (.sl true .non 4 ((advT n rows ver j).map (Adve.c true)))), Sa 8 (I j), Bx 9 ([cI j, cI ver, cIs true (nbs n j), sl true 1 ((pT d j).map (Name.c true))]), Pt 9, Sa 22 (I n.nodes), Sa 23 (I j), Sa 32 (O (sl false 2 (rows.map (TEnt.c false)))), Sa 33 (I rows.length), Sa 34 (I d.length)]) (rows.length) _ (.cons (.refl _) (.cons (.refl _) (.cons (.refl _) (.cons (.refl _) (.cons (.refl _) (.cons (.refl _) (.cons (.keep (.keep (.keep (.nils .nil)))) (.cons (.refl _) (.cons (.refl _) (.cons (.refl _) (.cons (.refl _) (.cons (.refl _) (.cons (.refl _) .nil))))))))))))) ⟨[], rows, rfl, rfl, (by first | rfl | (simp only [zlen, zsum, Nat.zero_mul, Int.add_zero, Int.sub_zero, List.nil_append, markG]; rfl))⟩ ?_
    rintro m2 τ ⟨d, r, hd, rfl, rfl⟩
    have hy : rows.length = d.length + r.length := by rw [hd]; simp
    have hpl := pT_len d j
    cases r with
    | nil =>
      refine Br.neg (by simp at *; omega) ?_
      (repeat' ((conv => whnf); first | refine stp ?_ ))
      refine Nx.intro (m - 1) (by omega) _ (WkS.weak _ _) ⟨j + 1, by omega, ?_⟩
      have e : rows = d := by simp [hd]
      (repeat' (first | exact rfl | refine consE ?_ ?_ | refine entE ?_ | refine vI ?_ | refine vS ?_ | refine vT ?_ | refine vB ?_))
      · rw [advT_succ, adv1, e]; simp
      all_goals simp
    | cons x r =>
      simp at hy
      have hx := (te_len hz (x := x) (by rw [hd]; simp)).2
      refine Br.pos (by simp; omega) ?_
      (repeat' ((conv => whnf); first | refine stp ?_ | refine El.mk (getH hd rfl) ?_ | refine Cl.pre (by simp only [shcLL_ints, shcLL_byts, shcLL_strs, Adve.shcs, Fetc.shcs, Gran.shcs, Keyy.shcs, Link.shcs, Mani.shcs, Name.shcs, Read.shcs, Rout.shcs, Segm.shcs, TEnt.shcs, Topo.shcs]; rfl) ?_))
      refine Br.mk (fun h3 => ?_) (fun h3 => ?_)
      · (repeat' ((conv => whnf); first | refine stp ?_ ))
        refine Br.mk (fun h2 => ?_) (fun h2 => ?_)
        · (repeat' ((conv => whnf); first | refine stp ?_ | refine Cl.mk (i_copyName x.name (by omega)) ?_ | refine Cl.pre (by simp only [shcLL_ints, shcLL_byts, shcLL_strs, Adve.shcs, Fetc.shcs, Gran.shcs, Keyy.shcs, Link.shcs, Mani.shcs, Name.shcs, Read.shcs, Rout.shcs, Segm.shcs, TEnt.shcs, Topo.shcs]; rfl) ?_))
          refine Nx.intro r.length (by simp) _ (WkS.weak _ _) ⟨d ++ [x], r, by simp [hd], rfl, ?_⟩
          (repeat' (first | exact rfl | refine consE ?_ ?_ | refine entE ?_ | refine vI ?_ | refine vS ?_ | refine vT ?_ | refine vB ?_))
          · rw [pT_yes h3 (by simp at h2; omega)]; simp
          · simp
        · (repeat' ((conv => whnf); first | refine stp ?_ ))
          refine Nx.intro r.length (by simp) _ (WkS.weak _ _) ⟨d ++ [x], r, by simp [hd], rfl, ?_⟩
          (repeat' (first | exact rfl | refine consE ?_ ?_ | refine entE ?_ | refine vI ?_ | refine vS ?_ | refine vT ?_ | refine vB ?_))
          · rw [pT_full (by simp at h2; omega)]
          · simp
      · (repeat' ((conv => whnf); first | refine stp ?_ ))
        refine Nx.intro r.length (by simp) _ (WkS.weak _ _) ⟨d ++ [x], r, by simp [hd], rfl, ?_⟩
        (repeat' (first | exact rfl | refine consE ?_ ?_ | refine entE ?_ | refine vI ?_ | refine vS ?_ | refine vT ?_ | refine vB ?_))
        · rw [pT_no h3]
        · simp
  · obtain rfl : j = n.nodes.toNat := by omega
    (repeat' ((conv => whnf); first | refine stp ?_ ))
    exact Vs.Fin.mk (WkR.of (.sl1 rfl .nil)) (.refl _)
end Go.Proofs.YtigkmijoefibiaaGreat
