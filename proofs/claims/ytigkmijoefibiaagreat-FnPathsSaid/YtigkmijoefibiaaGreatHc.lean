/- Contracts of functions of the program: no statement of the seat is proved here. Each under the conditions that stand in it. -/
import Derived.Test.YtigkmijoefibiaaGreatHb
set_option linter.all false
namespace Go.Proofs.YtigkmijoefibiaaGreat
open Go.Vs Go.Proofs
theorem is26 : FI 26 Tryz.f26 := ⟨⟨Tryz.f26, Tryz.func26, rfl, rfl, rfl, rfl⟩, rfl⟩
set_option maxRecDepth 20000 in
set_option maxHeartbeats 16000000 in
theorem i_ComputeRoutes (n : Topo) (l : List Adve) (a : Int) (hn : n.links.length ≤ 1048576) (hz : l.length + sumN Adve.size l ≤ 1048576) : FO 26 [A (Topo.c false n), Al l, I a] [A (Topo.c false n), Al l, I a] (Rt (crs n l a)) := by
  refine fok envOk mixed is26 ⟨rfl, rfl, ?_⟩
  have hrl2 : (rch l a).length ≤ 6 := rch_len l a
  (repeat' ((conv => whnf); first | refine stp ?_ | refine Cl.mk (i_rch l a (by omega)) ?_ | refine Cl.pre (by simp only [shcLL_ints, shcLL_byts, shcLL_strs, Adve.shcs, Fetc.shcs, Gran.shcs, Keyy.shcs, Link.shcs, Mani.shcs, Name.shcs, Read.shcs, Rout.shcs, Segm.shcs, TEnt.shcs, Topo.shcs]; rfl) ?_))
  refine Lp.mk [.sl 1, .sl 2, .bx 3, .sl 3, .sl 7, .sl 20, .sl 21, .sl 22] (fun m σ => ∃ d r, rch l a = d ++ r ∧ m = r.length ∧ σ = [Sa 1 (Al l), Sa 2 (I a), Bx 3 ((Topo.c false n)), Pt 3, Sa 7 (Rt (d.foldl (cdest n l a) [])), Sa 20 (Is true (rch l a)), Sa 21 (I (rch l a).length), Sa 22 (I d.length)]) ((rch l a).length) _ (.cons (.refl _) (.cons (.refl _) (.cons (.refl _) (.cons (.refl _) (.cons (.top .nil) (.cons (.refl _) (.cons (.refl _) (.cons (.refl _) .nil)))))))) ⟨[], rch l a, rfl, rfl, (by first | rfl | (simp only [zlen, zsum, Nat.zero_mul, Int.add_zero, Int.sub_zero, List.nil_append, markG]; rfl))⟩ ?_
  rintro m τ ⟨d, r, hd, rfl, rfl⟩
  have hy : (rch l a).length = d.length + r.length := by rw [hd]; simp
  cases r with
  | nil =>
    refine Br.neg (by simp at *; omega) ?_
    (repeat' ((conv => whnf); first | refine stp ?_ ))
    refine Vs.Fin.mk (WkR.eq ?_) (.refl _)
    rw [crs, hd]; simp
  | cons b r =>
    simp at hy
    refine Br.pos (by simp; omega) ?_
    have hany := reach_any (l := l) (a := a) (b := b) (by rw [hd]; simp)
    rcases find_split (p := orig b) l with ⟨h1, h2⟩ | ⟨e1, ad, e2, e, h2, h3, h4⟩
    · rw [h1] at hany; simp at hany
    have hfd := i_Find l b (by omega)
    rw [find_at e h2 h3] at hfd
    have hpz := (ad_len hz (x := ad) (by rw [e]; simp)).2
    have hll : l.length = e1.length + (e2.length + 1) := by rw [e]; simp
    have hdb := dAt_b l a b
    have hcl := clo_len l a b
    have hpo : prefsOf l b = ad.prefs := by simp [prefsOf, h4]
    have hnext : (d ++ [b]).foldl (cdest n l a) [] = cdest n l a (d.foldl (cdest n l a) []) b := foldl_snoc _ _ _ _
    have hvo : vRou (d.foldl (cdest n l a) []) = true := foldl_ok (fun _ x h => cdest_ok h x) _ _ rfl
    generalize hO : d.foldl (cdest n l a) [] = o0 at hnext hvo ⊢
    (repeat' ((conv => whnf); first | refine stp ?_ | refine El.mk (getH hd rfl) ?_ | refine Cl.pre (by simp only [shcLL_ints, shcLL_byts, shcLL_strs, Adve.shcs, Fetc.shcs, Gran.shcs, Keyy.shcs, Link.shcs, Mani.shcs, Name.shcs, Read.shcs, Rout.shcs, Segm.shcs, TEnt.shcs, Topo.shcs]; rfl) ?_))
    by_cases hba : b = a
    · refine Br.pos (by simp [hba]) ?_
      (repeat' ((conv => whnf); first | refine stp ?_ ))
      refine Nx.intro r.length (by simp) _ (WkS.weak _ _) ⟨d ++ [b], r, by simp [hd], rfl, ?_⟩
      (repeat' (first | exact rfl | refine consE ?_ ?_ | refine entE ?_ | refine vI ?_ | refine vS ?_ | refine vT ?_ | refine vB ?_))
      · rw [hnext, cdest, if_pos hba]
      · simp
    refine Br.neg (by simp [hba]) ?_
    (repeat' ((conv => whnf); first | refine stp ?_ | refine Cl.mk (i_Distance l a b (by omega)) ?_ | refine Cl.mk (hfd) ?_ | refine El.mk (getH e rfl) ?_ | refine Cl.pre (by simp only [shcLL_ints, shcLL_byts, shcLL_strs, Adve.shcs, Fetc.shcs, Gran.shcs, Keyy.shcs, Link.shcs, Mani.shcs, Name.shcs, Read.shcs, Rout.shcs, Segm.shcs, TEnt.shcs, Topo.shcs]; rfl) ?_))
    have hcd : cdest n l a o0 b = ad.prefs.foldl (cnear n a (dAt l a b) (clo l a b)) o0 := by rw [cdest, if_neg hba, hpo]
    refine Lp.mk [.sl 1, .sl 2, .bx 3, .sl 3, .sl 7, .sl 9, .sl 10, .sl 20, .sl 21, .sl 22, .sl 39, .sl 40, .sl 41] (fun m σ => ∃ pd pr, ad.prefs = pd ++ pr ∧ m = pr.length ∧ σ = [Sa 1 (Al l), Sa 2 (I a), Bx 3 ((Topo.c false n)), Pt 3, Sa 7 (Rt (pd.foldl (cnear n a (dAt l a b) (clo l a b)) o0)), Sa 9 (I b), Sa 10 (I (dAt l a b)), Sa 20 (Is true (rch l a)), Sa 21 (I (rch l a).length), Sa 22 (I d.length), Sa 39 (O (sl false 1 (ad.prefs.map (Name.c false)))), Sa 40 (I ad.prefs.length), Sa 41 (I pd.length)]) (ad.prefs.length) _ (WkS.weak _ _) ⟨[], ad.prefs, rfl, rfl, (by first | rfl | (simp only [zlen, zsum, Nat.zero_mul, Int.add_zero, Int.sub_zero, List.nil_append, markG]; rfl))⟩ ?_
    rintro m2 τ ⟨pd, pr, hpd, rfl, rfl⟩
    have hpy : ad.prefs.length = pd.length + pr.length := by rw [hpd]; simp
    cases pr with
    | nil =>
      refine Br.neg (by simp at *; omega) ?_
      (repeat' ((conv => whnf); first | refine stp ?_ ))
      refine Nx.intro r.length (by simp) _ (WkS.weak _ _) ⟨d ++ [b], r, by simp [hd], rfl, ?_⟩
      (repeat' (first | exact rfl | refine consE ?_ ?_ | refine entE ?_ | refine vI ?_ | refine vS ?_ | refine vT ?_ | refine vB ?_))
      · rw [hnext, hcd, hpd, List.append_nil]
      · simp
    | cons p pr =>
      simp at hpy
      have hps : Name.size p ≤ 1048576 := by have := sumN_mem Name.size (l := ad.prefs) (x := p) (by rw [hpd]; simp); omega
      have hps2 : strsSize p.parts ≤ 1048576 := hps
      refine Br.pos (by simp; omega) ?_
      (repeat' ((conv => whnf); first | refine stp ?_ | refine El.mk (getH hpd rfl) ?_ | refine Cl.mk (i_clo l a b (by omega)) ?_ | refine Cl.pre (by simp only [shcLL_ints, shcLL_byts, shcLL_strs, Adve.shcs, Fetc.shcs, Gran.shcs, Keyy.shcs, Link.shcs, Mani.shcs, Name.shcs, Read.shcs, Rout.shcs, Segm.shcs, TEnt.shcs, Topo.shcs]; rfl) ?_))
      have hnext2 : (pd ++ [p]).foldl (cnear n a (dAt l a b) (clo l a b)) o0 = (clo l a b).foldl (cstep n a p (dAt l a b)) (pd.foldl (cnear n a (dAt l a b) (clo l a b)) o0) := foldl_snoc _ _ _ _
      have hvo2 : vRou (pd.foldl (cnear n a (dAt l a b) (clo l a b)) o0) = true := foldl_ok (fun _ x h => cnear_ok h x) _ _ hvo
      generalize hO2 : pd.foldl (cnear n a (dAt l a b) (clo l a b)) o0 = o1 at hnext2 hvo2 ⊢
      refine Lp.mk [.sl 1, .sl 2, .bx 3, .sl 3, .sl 7, .sl 9, .sl 10, .bx 12, .sl 12, .sl 20, .sl 21, .sl 22, .sl 39, .sl 40, .sl 41, .sl 48, .sl 49, .sl 50] (fun m σ => ∃ nd nr, clo l a b = nd ++ nr ∧ m = nr.length ∧ σ = [Sa 1 (Al l), Sa 2 (I a), Bx 3 ((Topo.c false n)), Pt 3, Sa 7 (Rt (nd.foldl (cstep n a p (dAt l a b)) o1)), Sa 9 (I b), Sa 10 (I (dAt l a b)), Bx 12 ([cSs false p.parts]), Pt 12, Sa 20 (Is true (rch l a)), Sa 21 (I (rch l a).length), Sa 22 (I d.length), Sa 39 (O (sl false 1 (ad.prefs.map (Name.c false)))), Sa 40 (I ad.prefs.length), Sa 41 (I pd.length), Sa 48 (Is true (clo l a b)), Sa 49 (I (clo l a b).length), Sa 50 (I nd.length)]) ((clo l a b).length) _ (WkS.weak _ _) ⟨[], clo l a b, rfl, rfl, (by first | rfl | (simp only [zlen, zsum, Nat.zero_mul, Int.add_zero, Int.sub_zero, List.nil_append, markG]; rfl))⟩ ?_
      rintro m3 τ ⟨nd, nr, hnd, rfl, rfl⟩
      have hny : (clo l a b).length = nd.length + nr.length := by rw [hnd]; simp
      cases nr with
      | nil =>
        refine Br.neg (by simp at *; omega) ?_
        (repeat' ((conv => whnf); first | refine stp ?_ ))
        refine Nx.intro pr.length (by simp) _ (WkS.weak _ _) ⟨pd ++ [p], pr, by simp [hpd], rfl, ?_⟩
        (repeat' (first | exact rfl | refine consE ?_ ?_ | refine entE ?_ | refine vI ?_ | refine vS ?_ | refine vT ?_ | refine vB ?_))
        · rw [hnext2, hnd, List.append_nil]
        · simp
      | cons x nr =>
        simp at hny
        refine Br.pos (by simp; omega) ?_
        have hnext3 : (nd ++ [x]).foldl (cstep n a p (dAt l a b)) o1 = cstep n a p (dAt l a b) (nd.foldl (cstep n a p (dAt l a b)) o1) x := foldl_snoc _ _ _ _
        have hvo3 : vRou (nd.foldl (cstep n a p (dAt l a b)) o1) = true := foldl_ok (fun _ x h => cstep_ok h x) _ _ hvo2
        generalize hO3 : nd.foldl (cstep n a p (dAt l a b)) o1 = o at hnext3 hvo3 ⊢
        have hos := vRou_size hvo3
        have hf := faceTo_nn n a x
        have hcst : cstep n a p (dAt l a b) o x = if 0 < faceTo n a x ∧ better o p (faceTo n a x) (dAt l a b) = true then addT o ⟨p, faceTo n a x, dAt l a b⟩ else o := rfl
        have hFT := i_FaceTo n a x (by omega)
        generalize faceTo n a x = f at hf hcst hFT
        have hrf := i_routeAt o p f (by omega) (by omega)
        have har := i_AddRoute o ⟨p, f, dAt l a b⟩ (by omega) hps
        (repeat' ((conv => whnf); first | refine stp ?_ | refine El.mk (getH hnd rfl) ?_ | refine Cl.mk (hFT) ?_ | refine Cl.mk (hrf) ?_ | refine Cl.pre (by simp only [shcLL_ints, shcLL_byts, shcLL_strs, Adve.shcs, Fetc.shcs, Gran.shcs, Keyy.shcs, Link.shcs, Mani.shcs, Name.shcs, Read.shcs, Rout.shcs, Segm.shcs, TEnt.shcs, Topo.shcs]; rfl) ?_))
        rcases find_split (p := sameT p f) o with ⟨g1, g2⟩ | ⟨od, y, ot, ge, g2, g3, g4⟩
        · rw [findI_none g1]
          refine Br.mk (fun k1 => ?_) (fun k1 => ?_)
          · (repeat' ((conv => whnf); first | refine stp ?_ | refine Cl.mk (har) ?_ | refine Cl.pre (by simp only [shcLL_ints, shcLL_byts, shcLL_strs, Adve.shcs, Fetc.shcs, Gran.shcs, Keyy.shcs, Link.shcs, Mani.shcs, Name.shcs, Read.shcs, Rout.shcs, Segm.shcs, TEnt.shcs, Topo.shcs]; rfl) ?_))
            refine Nx.intro nr.length (by simp) _ (WkS.weak _ _) ⟨nd ++ [x], nr, by simp [hnd], rfl, ?_⟩
            (repeat' (first | exact rfl | refine consE ?_ ?_ | refine entE ?_ | refine vI ?_ | refine vS ?_ | refine vT ?_ | refine vB ?_))
            · rw [hnext3, hcst, if_pos ⟨by simp at k1; omega, by simp [better, g2]⟩]
            · simp
          · (repeat' ((conv => whnf); first | refine stp ?_ ))
            refine Nx.intro nr.length (by simp) _ (WkS.weak _ _) ⟨nd ++ [x], nr, by simp [hnd], rfl, ?_⟩
            (repeat' (first | exact rfl | refine consE ?_ ?_ | refine entE ?_ | refine vI ?_ | refine vS ?_ | refine vT ?_ | refine vB ?_))
            · rw [hnext3, hcst, if_neg (by simp at k1; omega)]
            · simp
        · have hfx : findI (sameT p f) o 0 = (od.length : Int) := by rw [ge, findI_at g2 g3]; simp
          rw [hfx]
          have f3 : decide ((od.length : Int) < 0) = false := by simp
          have hol : o.length = od.length + (ot.length + 1) := by rw [ge]; simp
          refine Br.mk (fun k1 => ?_) (fun k1 => ?_)
          · (repeat' ((conv => whnf); first | refine stp ?_ | refine El.mk (getH ge rfl) ?_ | refine Cl.pre (by simp only [shcLL_ints, shcLL_byts, shcLL_strs, Adve.shcs, Fetc.shcs, Gran.shcs, Keyy.shcs, Link.shcs, Mani.shcs, Name.shcs, Read.shcs, Rout.shcs, Segm.shcs, TEnt.shcs, Topo.shcs]; rfl) ?_))
            refine Br.mk (fun k2 => ?_) (fun k2 => ?_)
            · (repeat' ((conv => whnf); first | refine stp ?_ | refine Cl.mk (har) ?_ | refine Cl.pre (by simp only [shcLL_ints, shcLL_byts, shcLL_strs, Adve.shcs, Fetc.shcs, Gran.shcs, Keyy.shcs, Link.shcs, Mani.shcs, Name.shcs, Read.shcs, Rout.shcs, Segm.shcs, TEnt.shcs, Topo.shcs]; rfl) ?_))
              refine Nx.intro nr.length (by simp) _ (WkS.weak _ _) ⟨nd ++ [x], nr, by simp [hnd], rfl, ?_⟩
              (repeat' (first | exact rfl | refine consE ?_ ?_ | refine entE ?_ | refine vI ?_ | refine vS ?_ | refine vT ?_ | refine vB ?_))
              · rw [hnext3, hcst, if_pos ⟨by simp at k1; omega, by simp only [better, g4]; exact k2⟩]
              · simp
            · (repeat' ((conv => whnf); first | refine stp ?_ ))
              refine Nx.intro nr.length (by simp) _ (WkS.weak _ _) ⟨nd ++ [x], nr, by simp [hnd], rfl, ?_⟩
              (repeat' (first | exact rfl | refine consE ?_ ?_ | refine entE ?_ | refine vI ?_ | refine vS ?_ | refine vT ?_ | refine vB ?_))
              · rw [hnext3, hcst, if_neg (by simp only [better, g4, k2]; simp)]
              · simp
          · (repeat' ((conv => whnf); first | refine stp ?_ ))
            refine Nx.intro nr.length (by simp) _ (WkS.weak _ _) ⟨nd ++ [x], nr, by simp [hnd], rfl, ?_⟩
            (repeat' (first | exact rfl | refine consE ?_ ?_ | refine entE ?_ | refine vI ?_ | refine vS ?_ | refine vT ?_ | refine vB ?_))
            · rw [hnext3, hcst, if_neg (by simp at k1; omega)]
            · simp
end Go.Proofs.YtigkmijoefibiaaGreat
