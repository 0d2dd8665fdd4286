/- Contracts of functions of the program: no statement of the seat is proved here. Each under the conditions that stand in it. -/
import Derived.Test.YtigkmijoefibiaaGreatHa
import Derived.Test.YtigkmijoefibiaaGreatDh2
set_option linter.all false
namespace Go.Proofs.YtigkmijoefibiaaGreat
open Go.Vs Go.Proofs
theorem vTG_all : ∀ {d l : List Rout}, vTG d l = true → ∀ x ∈ l, okT x = true
  | _, [], _, x, hx => by simp at hx
  | d, y :: l, h, x, hx => by
    simp only [vTG, Bool.and_eq_true] at h
    rcases List.mem_cons.1 hx with rfl | hx
    · exact h.1.1
    · exact vTG_all h.2 x hx
theorem vName_size {n : Name} (h : vName n = true) : strsSize n.parts ≤ 54 := by
  simp only [vName, Bool.and_eq_true, List.all_eq_true, decide_eq_true_eq] at h
  have key : ∀ (l : List ByteArray), (∀ x ∈ l, vPart x = true) → sumN ByteArray.size l ≤ 8 * l.length := by
    intro l
    induction l with
    | nil => intro _; simp [sumN]
    | cons x l ih =>
      intro hx
      have h1 := ih (fun y hy => hx y (by simp [hy]))
      have h2 : vPart x = true := hx x (by simp)
      simp only [vPart, Bool.and_eq_true, inR_t] at h2
      simp only [sumN, List.length_cons]
      omega
  have := key n.parts h.1
  unfold strsSize; omega
theorem vRou_size {l : List Rout} (h : vRou l = true) : l.length ≤ 24 ∧ l.length + sumN Rout.size l ≤ 2000 := by
  simp only [vRou, Bool.and_eq_true, decide_eq_true_eq] at h
  have key : ∀ (l : List Rout), (∀ x ∈ l, okT x = true) → sumN Rout.size l ≤ 54 * l.length := by
    intro l
    induction l with
    | nil => intro _; simp [sumN]
    | cons x l ih =>
      intro hx
      have h1 := ih (fun y hy => hx y (by simp [hy]))
      have h2 : okT x = true := hx x (by simp)
      simp only [okT, Bool.and_eq_true] at h2
      have h3 := vName_size h2.1.1
      have h4 : Rout.size x = strsSize x.pref.parts := rfl
      simp only [sumN, List.length_cons]
      omega
  have := key l (vTG_all h.1)
  omega
theorem addT_ok {l : List Rout} (h : vRou l = true) (r : Rout) : vRou (addT l r) = true := by
  unfold addT; split
  · assumption
  · exact h
/-! Routes, computed: what is reached and the closer neighbors are sealed -/
theorem rchE : ∃ f : List Adve → Int → List Int, ∀ l a, f l a = reachL l a := ⟨_, fun _ _ => rfl⟩
noncomputable def rch : List Adve → Int → List Int := Classical.choose rchE
theorem rch_def (l : List Adve) (a : Int) : rch l a = reachL l a := Classical.choose_spec rchE l a
theorem cloE : ∃ f : List Adve → Int → Int → List Int, ∀ l a b, f l a b = cloT l a b 6 := ⟨_, fun _ _ _ => rfl⟩
noncomputable def clo : List Adve → Int → Int → List Int := Classical.choose cloE
theorem clo_def (l : List Adve) (a b : Int) : clo l a b = cloT l a b 6 := Classical.choose_spec cloE l a b
theorem rch_len (l : List Adve) (a : Int) : (rch l a).length ≤ 6 := by rw [rch_def]; exact nnT_len (distL l a) 6
theorem clo_len (l : List Adve) (a b : Int) : (clo l a b).length ≤ 6 := by rw [clo_def]; exact cloT_len l a b 6
theorem s_rch (l : List Adve) (a : Int) (hz : l.length + sumN Adve.size l ≤ 1099511627776) : FO 100 [Al l, I a] [Al l, I a] (Is true (rch l a)) := by rw [rch_def]; exact s_Reachable l a hz
theorem i_rch (l : List Adve) (a : Int) (hz : l.length + sumN Adve.size l ≤ 1099511627776) : FO 93 [Al l, I a] [Al l, I a] (Is true (rch l a)) := by rw [rch_def]; exact i_Reachable l a hz
theorem s_clo (l : List Adve) (a b : Int) (hz : l.length + sumN Adve.size l ≤ 1099511627776) : FO 101 [Al l, I a, I b] [Al l, I a, I b] (Is true (clo l a b)) := by rw [clo_def]; exact s_Closer l a b hz
theorem i_clo (l : List Adve) (a b : Int) (hz : l.length + sumN Adve.size l ≤ 1099511627776) : FO 94 [Al l, I a, I b] [Al l, I a, I b] (Is true (clo l a b)) := by rw [clo_def]; exact i_Closer l a b hz
def better (o : List Rout) (p : Name) (f c : Int) : Bool := match o.find? (sameT p f) with
  | none => true
  | some y => decide (y.cost > c)
def cstep (n : Topo) (a : Int) (p : Name) (c : Int) (o : List Rout) (x : Int) : List Rout := if 0 < faceTo n a x ∧ better o p (faceTo n a x) c = true then addT o ⟨p, faceTo n a x, c⟩ else o
def cnear (n : Topo) (a : Int) (c : Int) (near : List Int) (o : List Rout) (p : Name) : List Rout := near.foldl (cstep n a p c) o
def prefsOf (l : List Adve) (b : Int) : List Name := match l.find? (orig b) with
  | none => []
  | some x => x.prefs
noncomputable def cdest (n : Topo) (l : List Adve) (a : Int) (o : List Rout) (b : Int) : List Rout := if b = a then o else (prefsOf l b).foldl (cnear n a (dAt l a b) (clo l a b)) o
noncomputable def crs (n : Topo) (l : List Adve) (a : Int) : List Rout := (rch l a).foldl (cdest n l a) []
theorem cstep_ok {n : Topo} {a : Int} {p : Name} {c : Int} {o : List Rout} (h : vRou o = true) (x : Int) : vRou (cstep n a p c o x) = true := by
  unfold cstep; split
  · exact addT_ok h _
  · exact h
theorem foldl_ok {α : Type} {f : List Rout → α → List Rout} (hf : ∀ o x, vRou o = true → vRou (f o x) = true) : ∀ (l : List α) (o : List Rout), vRou o = true → vRou (l.foldl f o) = true
  | [], _, h => h
  | x :: l, o, h => foldl_ok hf l _ (hf o x h)
theorem cnear_ok {n : Topo} {a c : Int} {near : List Int} {o : List Rout} (h : vRou o = true) (p : Name) : vRou (cnear n a c near o p) = true := foldl_ok (fun _ x h => cstep_ok h x) _ _ h
theorem cdest_ok {n : Topo} {l : List Adve} {a : Int} {o : List Rout} (h : vRou o = true) (b : Int) : vRou (cdest n l a o b) = true := by
  unfold cdest; split
  · exact h
  · exact foldl_ok (fun _ x h => cnear_ok h x) _ _ h
theorem crs_ok (n : Topo) (l : List Adve) (a : Int) : vRou (crs n l a) = true := foldl_ok (fun _ x h => cdest_ok h x) _ _ rfl
theorem foldl_snoc {α β : Type} (f : β → α → β) (d : List α) (x : α) (o : β) : (d ++ [x]).foldl f o = f (d.foldl f o) x := by simp
theorem reach_any {l : List Adve} {a b : Int} (h : b ∈ rch l a) : l.any (orig b) = true := by
  rw [rch_def] at h
  simp only [reachL, nnT, List.mem_map, List.mem_filter, List.mem_range, decide_eq_true_eq] at h
  obtain ⟨k, ⟨hk, h0⟩, rfl⟩ := h
  have hD := distL_is l a
  by_cases hz : gI (distL l a) k = 0
  · have := (hD.sr k hk).1 hz
    simp only [srcA, Bool.and_eq_true, beq_iff_eq] at this
    rw [this.1]; exact this.2
  · obtain ⟨u, hu, ha, -⟩ := hD.pred k hk (by omega)
    have hb : bidA l (u : Int) (k : Int) = true := ha
    simp only [bidA, Bool.and_eq_true] at hb
    exact nbrA_any hb.2
theorem faceTo_nn (n : Topo) (a b : Int) : 0 ≤ faceTo n a b ∧ faceTo n a b ≤ 7 := by
  have h1 := findI_b (p := fun y => decide (y = b)) (nbs n a) 0 (by omega)
  have h2 := nbs_len n a
  unfold faceTo faceT; omega
abbrev Rt (l : List Rout) : Arg := O (sl true 3 (l.map (Rout.c true)))
theorem is32 : FI 32 Tryz.f32 := ⟨⟨Tryz.f32, Tryz.func32, rfl, rfl, rfl, rfl⟩, rfl⟩
set_option maxRecDepth 20000 in
set_option maxHeartbeats 16000000 in
theorem s_ComputeRoutes (n : Topo) (l : List Adve) (a : Int) (hn : n.links.length ≤ 1048576) (hz : l.length + sumN Adve.size l ≤ 1048576) : FO 32 [A (Topo.c false n), Al l, I a] [A (Topo.c false n), Al l, I a] (Rt (crs n l a)) := by
  refine fok envOk mixed is32 ⟨rfl, rfl, ?_⟩
  have hrl2 := rch_len l a
  (repeat' ((conv => whnf); first | refine stp ?_ | refine Cl.mk (s_rch l a (by omega)) ?_ | refine Cl.pre (by simp only [shcLL_ints, shcLL_byts, shcLL_strs, Adve.shcs, Fetc.shcs, Gran.shcs, Keyy.shcs, Link.shcs, Mani.shcs, Name.shcs, Read.shcs, Rout.shcs, Segm.shcs, TEnt.shcs, Topo.shcs]; rfl) ?_))
  refine Lp.mk [.sl 1, .sl 2, .bx 3, .sl 3, .sl 7, .sl 8, .sl 9] (fun m σ => ∃ d r, rch l a = d ++ r ∧ m = r.length ∧ σ = [Sa 1 (Al l), Sa 2 (I a), Bx 3 ((Topo.c false n)), Pt 3, Sa 7 (Rt (d.foldl (cdest n l a) [])), Sa 8 (Is true (rch l a)), Sa 9 (I d.length)]) ((rch l a).length) _ (.cons (.refl _) (.cons (.refl _) (.cons (.refl _) (.cons (.refl _) (.cons (.top .nil) (.cons (.refl _) (.cons (.refl _) .nil))))))) ⟨[], rch l a, rfl, rfl, (by first | rfl | (simp only [zlen, zsum, Nat.zero_mul, Int.add_zero, Int.sub_zero, List.nil_append, markG]; rfl))⟩ ?_
  rintro m τ ⟨d, r, hd, rfl, rfl⟩
  have hy : (rch l a).length = d.length + r.length := by rw [hd]; simp
  refine Nm.mk lenC ?_
  cases r with
  | nil =>
    refine Br.neg (by simp at *; omega) ?_
    (repeat' ((conv => whnf); first | refine stp ?_ ))
    refine Vs.Fin.mk (WkR.eq ?_) (.refl _)
    rw [crs, hd]; simp
  | cons b r =>
    simp at hy
    refine Br.pos (by simp; omega) ?_
    have hany := reach_any (l := l) (a := a) (b := b) (by rw [hd]; simp)
    rcases find_split (p := orig b) l with ⟨h1, h2⟩ | ⟨e1, ad, e2, e, h2, h3, h4⟩
    · rw [h1] at hany; simp at hany
    have hfd := s_Find l b (by omega)
    rw [find_at e h2 h3] at hfd
    have hpz := (ad_len hz (x := ad) (by rw [e]; simp)).2
    have hll : l.length = e1.length + (e2.length + 1) := by rw [e]; simp
    have hdb := dAt_b l a b
    have hcl := clo_len l a b
    have hpo : prefsOf l b = ad.prefs := by simp [prefsOf, h4]
    have hnext : (d ++ [b]).foldl (cdest n l a) [] = cdest n l a (d.foldl (cdest n l a) []) b := foldl_snoc _ _ _ _
    have hvo : vRou (d.foldl (cdest n l a) []) = true := foldl_ok (fun _ x h => cdest_ok h x) _ _ rfl
    generalize hO : d.foldl (cdest n l a) [] = o0 at hnext hvo ⊢
    (repeat' ((conv => whnf); first | refine stp ?_ | refine El.mk (getH hd rfl) ?_ | refine Cl.mk (hfd) ?_ | refine Cl.mk (s_clo l a b (by omega)) ?_ | refine Cl.mk (s_Distance l a b (by omega)) ?_ | refine Cl.pre (by simp only [shcLL_ints, shcLL_byts, shcLL_strs, Adve.shcs, Fetc.shcs, Gran.shcs, Keyy.shcs, Link.shcs, Mani.shcs, Name.shcs, Read.shcs, Rout.shcs, Segm.shcs, TEnt.shcs, Topo.shcs]; rfl) ?_))
    by_cases hba : b = a
    · refine Lp.mk [.sl 1, .sl 2, .bx 3, .sl 3, .sl 7, .sl 8, .sl 9, .sl 10, .sl 11, .sl 12, .sl 13] (fun m σ => ∃ q, q = 0 ∧ m = 0 ∧ σ = [Sa 1 (Al l), Sa 2 (I a), Bx 3 ((Topo.c false n)), Pt 3, Sa 7 (Rt o0), Sa 8 (Is true (rch l a)), Sa 9 (I d.length), Sa 10 (I e1.length), Sa 11 (Is true (clo l a b)), Sa 12 (I (dAt l a b)), Sa 13 (I q)]) (0) _ (WkS.weak _ _) ⟨0, rfl, rfl, (by first | rfl | (simp only [zlen, zsum, Nat.zero_mul, Int.add_zero, Int.sub_zero, List.nil_append, markG]; rfl))⟩ ?_
      rintro m2 τ ⟨q, rfl, rfl, rfl⟩
      have f9 : (b != a) = false := by simp [hba]
      (repeat' ((conv => whnf); first | refine stp ?_ | refine Br.mk (fun _ => ?_) (fun _ => ?_) | refine El.mk (getH e rfl) ?_ | refine El.mk (getH hd rfl) ?_ | refine Cl.pre (by simp only [shcLL_ints, shcLL_byts, shcLL_strs, Adve.shcs, Fetc.shcs, Gran.shcs, Keyy.shcs, Link.shcs, Mani.shcs, Name.shcs, Read.shcs, Rout.shcs, Segm.shcs, TEnt.shcs, Topo.shcs]; rfl) ?_))
      all_goals
        refine Nx.intro r.length (by simp) _ (WkS.weak _ _) ⟨d ++ [b], r, by simp [hd], rfl, ?_⟩
        (repeat' (first | exact rfl | refine consE ?_ ?_ | refine entE ?_ | refine vI ?_ | refine vS ?_ | refine vT ?_ | refine vB ?_))
        · rw [hnext, cdest, if_pos hba]
        · simp
    have f9 : (b != a) = true := by simp [hba]
    have hcd : cdest n l a o0 b = ad.prefs.foldl (cnear n a (dAt l a b) (clo l a b)) o0 := by rw [cdest, if_neg hba, hpo]
    refine Lp.mk [.sl 1, .sl 2, .bx 3, .sl 3, .sl 7, .sl 8, .sl 9, .sl 10, .sl 11, .sl 12, .sl 13] (fun m σ => ∃ pd pr, ad.prefs = pd ++ pr ∧ m = pr.length ∧ σ = [Sa 1 (Al l), Sa 2 (I a), Bx 3 ((Topo.c false n)), Pt 3, Sa 7 (Rt (pd.foldl (cnear n a (dAt l a b) (clo l a b)) o0)), Sa 8 (Is true (rch l a)), Sa 9 (I d.length), Sa 10 (I e1.length), Sa 11 (Is true (clo l a b)), Sa 12 (I (dAt l a b)), Sa 13 (I pd.length)]) (ad.prefs.length) _ (WkS.weak _ _) ⟨[], ad.prefs, rfl, rfl, (by first | rfl | (simp only [zlen, zsum, Nat.zero_mul, Int.add_zero, Int.sub_zero, List.nil_append, markG]; rfl))⟩ ?_
    rintro m2 τ ⟨pd, pr, hpd, rfl, rfl⟩
    have hpy : ad.prefs.length = pd.length + pr.length := by rw [hpd]; simp
    cases pr with
    | nil =>
      have f1 : decide ((pd.length : Int) < (ad.prefs.length : Int)) = false := by simp at *; omega
      (repeat' ((conv => whnf); first | refine stp ?_ | refine El.mk (getH e rfl) ?_ | refine Cl.pre (by simp only [shcLL_ints, shcLL_byts, shcLL_strs, Adve.shcs, Fetc.shcs, Gran.shcs, Keyy.shcs, Link.shcs, Mani.shcs, Name.shcs, Read.shcs, Rout.shcs, Segm.shcs, TEnt.shcs, Topo.shcs]; rfl) ?_))
      refine Nx.intro r.length (by simp) _ (WkS.weak _ _) ⟨d ++ [b], r, by simp [hd], rfl, ?_⟩
      (repeat' (first | exact rfl | refine consE ?_ ?_ | refine entE ?_ | refine vI ?_ | refine vS ?_ | refine vT ?_ | refine vB ?_))
      · rw [hnext, hcd, hpd, List.append_nil]
      · simp
    | cons p pr =>
      simp at hpy
      have hps : Name.size p ≤ 1048576 := by have := sumN_mem Name.size (l := ad.prefs) (x := p) (by rw [hpd]; simp); omega
      have hps2 : strsSize p.parts ≤ 1048576 := hps
      have f1 : decide ((pd.length : Int) < (ad.prefs.length : Int)) = true := by simp; omega
      (repeat' ((conv => whnf); first | refine stp ?_ | refine El.mk (getH e rfl) ?_ | refine El.mk (getH hd rfl) ?_ | refine Cl.pre (by simp only [shcLL_ints, shcLL_byts, shcLL_strs, Adve.shcs, Fetc.shcs, Gran.shcs, Keyy.shcs, Link.shcs, Mani.shcs, Name.shcs, Read.shcs, Rout.shcs, Segm.shcs, TEnt.shcs, Topo.shcs]; rfl) ?_))
      have hnext2 : (pd ++ [p]).foldl (cnear n a (dAt l a b) (clo l a b)) o0 = (clo l a b).foldl (cstep n a p (dAt l a b)) (pd.foldl (cnear n a (dAt l a b) (clo l a b)) o0) := foldl_snoc _ _ _ _
      have hvo2 : vRou (pd.foldl (cnear n a (dAt l a b) (clo l a b)) o0) = true := foldl_ok (fun _ x h => cnear_ok h x) _ _ hvo
      generalize hO2 : pd.foldl (cnear n a (dAt l a b) (clo l a b)) o0 = o1 at hnext2 hvo2 ⊢
      refine Lp.mk [.sl 1, .sl 2, .bx 3, .sl 3, .sl 7, .sl 8, .sl 9, .sl 10, .sl 11, .sl 12, .sl 13, .sl 14] (fun m σ => ∃ nd nr, clo l a b = nd ++ nr ∧ m = nr.length ∧ σ = [Sa 1 (Al l), Sa 2 (I a), Bx 3 ((Topo.c false n)), Pt 3, Sa 7 (Rt (nd.foldl (cstep n a p (dAt l a b)) o1)), Sa 8 (Is true (rch l a)), Sa 9 (I d.length), Sa 10 (I e1.length), Sa 11 (Is true (clo l a b)), Sa 12 (I (dAt l a b)), Sa 13 (I pd.length), Sa 14 (I nd.length)]) ((clo l a b).length) _ (WkS.weak _ _) ⟨[], clo l a b, rfl, rfl, (by first | rfl | (simp only [zlen, zsum, Nat.zero_mul, Int.add_zero, Int.sub_zero, List.nil_append, markG]; rfl))⟩ ?_
      rintro m3 τ ⟨nd, nr, hnd, rfl, rfl⟩
      have hny : (clo l a b).length = nd.length + nr.length := by rw [hnd]; simp
      refine Nm.mk lenC ?_
      cases nr with
      | nil =>
        refine Br.neg (by simp at *; omega) ?_
        (repeat' ((conv => whnf); first | refine stp ?_ ))
        refine Nx.intro pr.length (by simp) _ (WkS.weak _ _) ⟨pd ++ [p], pr, by simp [hpd], rfl, ?_⟩
        (repeat' (first | exact rfl | refine consE ?_ ?_ | refine entE ?_ | refine vI ?_ | refine vS ?_ | refine vT ?_ | refine vB ?_))
        · rw [hnext2, hnd, List.append_nil]
        · simp
      | cons x nr =>
        simp at hny
        refine Br.pos (by simp; omega) ?_
        have hnext3 : (nd ++ [x]).foldl (cstep n a p (dAt l a b)) o1 = cstep n a p (dAt l a b) (nd.foldl (cstep n a p (dAt l a b)) o1) x := foldl_snoc _ _ _ _
        have hvo3 : vRou (nd.foldl (cstep n a p (dAt l a b)) o1) = true := foldl_ok (fun _ x h => cstep_ok h x) _ _ hvo2
        generalize hO3 : nd.foldl (cstep n a p (dAt l a b)) o1 = o at hnext3 hvo3 ⊢
        have hos := vRou_size hvo3
        have hf := faceTo_nn n a x
        have hcst : cstep n a p (dAt l a b) o x = if 0 < faceTo n a x ∧ better o p (faceTo n a x) (dAt l a b) = true then addT o ⟨p, faceTo n a x, dAt l a b⟩ else o := rfl
        have hFT := s_FaceTo n a x (by omega)
        generalize faceTo n a x = f at hf hcst hFT
        have hrf := s_l14Find o p f (by omega) (by omega)
        have har := s_AddRoute o ⟨p, f, dAt l a b⟩ (by omega) hps
        (repeat' ((conv => whnf); first | refine stp ?_ | refine El.mk (getH hnd rfl) ?_ | refine Cl.mk (hFT) ?_ | refine El.mk (getH e rfl) ?_ | refine El.mk (getH hpd rfl) ?_ | refine Cl.mk (hrf) ?_ | refine Cl.pre (by simp only [shcLL_ints, shcLL_byts, shcLL_strs, Adve.shcs, Fetc.shcs, Gran.shcs, Keyy.shcs, Link.shcs, Mani.shcs, Name.shcs, Read.shcs, Rout.shcs, Segm.shcs, TEnt.shcs, Topo.shcs]; rfl) ?_))
        rcases find_split (p := sameT p f) o with ⟨g1, g2⟩ | ⟨od, y, ot, ge, g2, g3, g4⟩
        · rw [findI_none g1] at hrf ⊢
          refine Br.mk (fun k1 => ?_) (fun k1 => ?_)
          · (repeat' ((conv => whnf); first | refine stp ?_ | refine El.mk (getH e rfl) ?_ | refine El.mk (getH hpd rfl) ?_ | refine Cl.mk (har) ?_ | refine Cl.pre (by simp only [shcLL_ints, shcLL_byts, shcLL_strs, Adve.shcs, Fetc.shcs, Gran.shcs, Keyy.shcs, Link.shcs, Mani.shcs, Name.shcs, Read.shcs, Rout.shcs, Segm.shcs, TEnt.shcs, Topo.shcs]; rfl) ?_))
            refine Nx.intro nr.length (by simp) _ (WkS.weak _ _) ⟨nd ++ [x], nr, by simp [hnd], rfl, ?_⟩
            (repeat' (first | exact rfl | refine consE ?_ ?_ | refine entE ?_ | refine vI ?_ | refine vS ?_ | refine vT ?_ | refine vB ?_))
            · rw [hnext3, hcst, if_pos ⟨by simpa using k1, by simp [better, g2]⟩]
            · simp
          · (repeat' ((conv => whnf); first | refine stp ?_ ))
            refine Nx.intro nr.length (by simp) _ (WkS.weak _ _) ⟨nd ++ [x], nr, by simp [hnd], rfl, ?_⟩
            (repeat' (first | exact rfl | refine consE ?_ ?_ | refine entE ?_ | refine vI ?_ | refine vS ?_ | refine vT ?_ | refine vB ?_))
            · rw [hnext3, hcst, if_neg (by simp at k1; omega)]
            · simp
        · have hfx : findI (sameT p f) o 0 = (od.length : Int) := by rw [ge, findI_at g2 g3]; simp
          rw [hfx]
          have f3 : decide ((od.length : Int) < 0) = false := by simp
          have hol : o.length = od.length + (ot.length + 1) := by rw [ge]; simp
          refine Br.mk (fun k1 => ?_) (fun k1 => ?_)
          · (repeat' ((conv => whnf); first | refine stp ?_ | refine El.mk (getH ge rfl) ?_ | refine Cl.pre (by simp only [shcLL_ints, shcLL_byts, shcLL_strs, Adve.shcs, Fetc.shcs, Gran.shcs, Keyy.shcs, Link.shcs, Mani.shcs, Name.shcs, Read.shcs, Rout.shcs, Segm.shcs, TEnt.shcs, Topo.shcs]; rfl) ?_))
            refine Br.mk (fun k2 => ?_) (fun k2 => ?_)
            · (repeat' ((conv => whnf); first | refine stp ?_ | refine El.mk (getH e rfl) ?_ | refine El.mk (getH hpd rfl) ?_ | refine Cl.mk (har) ?_ | refine Cl.pre (by simp only [shcLL_ints, shcLL_byts, shcLL_strs, Adve.shcs, Fetc.shcs, Gran.shcs, Keyy.shcs, Link.shcs, Mani.shcs, Name.shcs, Read.shcs, Rout.shcs, Segm.shcs, TEnt.shcs, Topo.shcs]; rfl) ?_))
              refine Nx.intro nr.length (by simp) _ (WkS.weak _ _) ⟨nd ++ [x], nr, by simp [hnd], rfl, ?_⟩
              (repeat' (first | exact rfl | refine consE ?_ ?_ | refine entE ?_ | refine vI ?_ | refine vS ?_ | refine vT ?_ | refine vB ?_))
              · rw [hnext3, hcst, if_pos ⟨by simpa using k1, by simp only [better, g4]; exact k2⟩]
              · simp
            · (repeat' ((conv => whnf); first | refine stp ?_ ))
              refine Nx.intro nr.length (by simp) _ (WkS.weak _ _) ⟨nd ++ [x], nr, by simp [hnd], rfl, ?_⟩
              (repeat' (first | exact rfl | refine consE ?_ ?_ | refine entE ?_ | refine vI ?_ | refine vS ?_ | refine vT ?_ | refine vB ?_))
              · rw [hnext3, hcst, if_neg (by simp only [better, g4, k2]; simp)]
              · simp
          · (repeat' ((conv => whnf); first | refine stp ?_ ))
            refine Nx.intro nr.length (by simp) _ (WkS.weak _ _) ⟨nd ++ [x], nr, by simp [hnd], rfl, ?_⟩
            (repeat' (first | exact rfl | refine consE ?_ ?_ | refine entE ?_ | refine vI ?_ | refine vS ?_ | refine vT ?_ | refine vB ?_))
            · rw [hnext3, hcst, if_neg (by simp at k1; omega)]
            · simp
end Go.Proofs.YtigkmijoefibiaaGreat
