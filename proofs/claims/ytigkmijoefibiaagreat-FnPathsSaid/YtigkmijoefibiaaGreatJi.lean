/- Contracts of functions of the program: no statement of the seat is proved here. Each under the conditions that stand in it. -/
import Derived.Test.YtigkmijoefibiaaGreatM11
set_option linter.all false
namespace Go.Proofs.YtigkmijoefibiaaGreat
open Go.Vs Go.Proofs
theorem is4 : FI 4 Tryz.f4 := ⟨⟨Tryz.f4, Tryz.func4, rfl, rfl, rfl, rfl⟩, rfl⟩
set_option maxRecDepth 20000 in
set_option maxHeartbeats 16000000 in
theorem ex0Paths (code : List UInt8) (hl : code.length ≤ 1048576) (g : Topo) (rows : List TEnt) (a : Int) (x : Name) (h : Topo) (m : List Adve) (k : Int) (d : List Adve) (e : Int) (f : Name) (p : Topo) (q : List Adve) (s : Int) (y : Name) (u : Topo) (v : List Adve) (w sd to : Int) (o : List Adve) (z : Name) (hg1 : g.links.length ≤ 200) (hg2 : 2 ≤ g.nodes ∧ g.nodes ≤ 6) (hL : (advs g rows 1).length + sumN Adve.size (advs g rows 1) ≤ 2000) (ha : 0 ≤ a ∧ a ≤ g.nodes - 1) (hx : strsSize x.parts ≤ 100) (hh : h.links.length ≤ 200) (hm : m.length + sumN Adve.size m ≤ 2000) (hd : d.length + sumN Adve.size d ≤ 2000) (hf : strsSize f.parts ≤ 100) (hp1 : p.links.length ≤ 200) (hp2 : 0 ≤ p.nodes ∧ p.nodes ≤ 7) (hq : q.length + sumN Adve.size q ≤ 2000) (hy : strsSize y.parts ≤ 100) (hu : u.links.length ≤ 200) (hv : v.length + sumN Adve.size v ≤ 2000) (ho : o.length + sumN Adve.size o ≤ 2000) (hz : strsSize z.parts ≤ 100) (k1 : FO 24 [Ys false code] [Ys false code] (NLax g (advs g rows 1) a x)) (k2 : FO 25 [Ys false code] [Ys false code] (NLa h m k)) (k3 : FO 27 [Ys false code] [Ys false code] (LaX d e f)) (k4 : FO 28 [Ys false code] [Ys false code] (NLax p q s y)) (k5 : FO 29 [Ys false code] [Ys false code] (NL3 u v w sd to)) (k6 : FO 30 [Ys false code] [Ys false code] (LX o z)) : FO 4 [Ys false code] [Ys false code] (B true) := by
  refine fok envOk mixed is4 ⟨rfl, rfl, ?_⟩
  have hfl := strs_len hf
  have hzl := strs_len hz
  have c1 := sh_Ro (i_ComputeRoutes h m k (by omega) (by omega))
  have c2 := sh_Ro (s_ComputeRoutes h m k (by omega) (by omega))
  have c3 := same_Routes (crs h m k) (by have := (vRou_size (crs_ok h m k)).1; omega) (fun r hr => by have := (rt_len (vRou_size (crs_ok h m k)).2 hr).2; omega)
  generalize crs h m k = C at c1 c2 c3
  have d1 := i_Nearest d e f (by omega) (by omega)
  have d2 := s_Nearest d e f (by omega) (by omega)
  have d3 := i_HasProducer d e f (by omega) (by omega)
  have d4 := s_HasProducer d e f (by omega) (by omega)
  generalize near d e f = nr at d1 d2 d3 d4
  have p1 := i_PathTo p q s y (p.nodes - 1) (wrapI (by omega) (by omega)) (by omega) (by omega) (by omega)
  have p2 := s_PathTo p q s y (p.nodes - 1) (wrapI (by omega) (by omega)) (fun b h1 h2 => inR_t.2 ⟨h1, h2⟩) (by omega) (by omega) (by omega)
  have p3 := same_IntsK (path p q s (p.nodes - 1) y) (by have := path_len p q s (p.nodes - 1) y; omega)
  generalize path p q s (p.nodes - 1) y = P0 at p1 p2 p3
  have l1 := i_Leads u v w sd to (by omega) (by omega)
  have l2 := s_Leads u v w sd to (by omega) (by omega)
  generalize leads u v w sd to = bl0 at l1 l2
  have o1 := i_Producers o z (by omega) (by omega)
  have o2 := s_Producers o z (by omega) (by omega)
  have o3 := same_IntsK (prodT o z 6) (by have := prodT_len o z 6; omega)
  generalize prodT o z 6 = O0 at o1 o2 o3
  have hT : ∀ r ∈ crs g (advs g rows 1) a, ∃ b : Int, (0 ≤ b ∧ b < g.nodes) ∧ leads g (advs g rows 1) a r.face b = true ∧ hasK (prodT (advs g rows 1) r.pref 6) b = true ∧ dAt (advs g rows 1) a b = r.cost := fun r hr => by
    obtain ⟨b, h1, h2, h3, h4, h5⟩ := met_ok (crs_met g (advs g rows 1) a r hr)
    exact ⟨b, advs_orig h1, h3, h4, h5⟩
  obtain ⟨⟨pt, hP⟩, hPl⟩ := path_ok (l := advs g rows 1) (x := x) ha
  generalize advs g rows 1 = L at *
  have t1 := sh_Ro (i_ComputeRoutes g L a (by omega) (by omega))
  have hTs := vRou_size (crs_ok g L a)
  have t2 := i_ValidRoutes (crs g L a) (by omega)
  rw [crs_ok] at t2
  generalize crs g L a = T at t1 t2 hTs hT
  have t3 := i_PathTo g L a x (g.nodes - 1) (wrapI (by omega) (by omega)) (by omega) (by omega) (by omega)
  generalize path g L a (g.nodes - 1) x = P at t3 hP hPl
  (repeat' ((conv => whnf); first | refine stp ?_ | refine Cl.mk (big_no code hl) ?_ | refine Cl.mk (k1) ?_ | refine Cl.mk (k2) ?_ | refine Cl.mk (c1) ?_ | refine Cl.mk (k3) ?_ | refine Cl.mk (k4) ?_ | refine Cl.mk (k5) ?_ | refine Cl.mk (k6) ?_ | refine Cl.mk (c2) ?_ | refine Cl.mk (c3) ?_ | refine Cl.mk (d1) ?_ | refine Cl.mk (d2) ?_ | refine Cl.mk (d3) ?_ | refine Cl.mk (d4) ?_ | refine Cl.mk (p1) ?_ | refine Cl.mk (p2) ?_ | refine Cl.mk (p3) ?_ | refine Cl.mk (l1) ?_ | refine Cl.mk (l2) ?_ | refine Cl.mk (o1) ?_ | refine Cl.mk (o2) ?_ | refine Cl.mk (o3) ?_ | refine Cl.mk (t1) ?_ | refine Cl.pre (by simp only [shcLL_ints, shcLL_byts, shcLL_strs, Adve.shcs, Data.shcs, Fetc.shcs, Gran.shcs, Keyy.shcs, Link.shcs, Mani.shcs, Name.shcs, Read.shcs, Rout.shcs, Segm.shcs, TEnt.shcs, Topo.shcs]; rfl) ?_))
  refine Lp.mk [.bx 3, .sl 3, .sl 4, .sl 5, .bx 6, .sl 6, .sl 25, .sl 26] (fun m σ => ∃ dn rn, T = dn ++ rn ∧ m = rn.length ∧ σ = [Bx 3 (Topo.c false g), Pt 3, Sa 4 (Al L), Sa 5 (I a), Bx 6 (Name.c false x), Pt 6, Sa 25 (Rl T), Sa 26 (I dn.length)]) (T.length) _ (WkS.weak _ _) ⟨[], T, rfl, rfl, (by first | rfl | (simp only [zlen, zsum, Nat.zero_mul, Int.add_zero, Int.sub_zero, List.nil_append, markG]; rfl))⟩ ?_
  rintro m1 τ ⟨dn, rn, hdn, rfl, rfl⟩
  have hyT : T.length = dn.length + rn.length := by rw [hdn]; simp
  refine Nm.mk lenC ?_
  cases rn with
  | nil =>
    refine Br.neg (by simp at *; omega) ?_
    have f1 : decide ((P.length : Int) ≥ 1) = true := by rw [hP]; simp; omega
    have f2 : decide ((P.length : Int) ≤ g.nodes) = true := by simpa using hPl
    have f3 : (a == a) = true := by simp
    have hPP : P = [] ++ a :: pt := hP
    have hP1 : 0 < P.length := by rw [hP]; simp
    (repeat' ((conv => whnf); first | refine stp ?_ | refine Cl.mk (t3) ?_ | refine Rq.mk ⟨by omega, by rw [List.length_map]; omega⟩ ?_ | refine El.mk (getH hPP rfl) ?_ | refine Cl.mk (t2) ?_ | refine Cl.pre (by simp only [shcLL_ints, shcLL_byts, shcLL_strs, Adve.shcs, Data.shcs, Fetc.shcs, Gran.shcs, Keyy.shcs, Link.shcs, Mani.shcs, Name.shcs, Read.shcs, Rout.shcs, Segm.shcs, TEnt.shcs, Topo.shcs]; rfl) ?_))
    exact Vs.Fin.mk (WkR.refl _) (.refl _)
  | cons r rn =>
    obtain ⟨b, hb, h1, h2, h3⟩ := hT r (by rw [hdn]; simp)
    have hrl := (rt_len hTs.2 (r := r) (by rw [hdn]; simp)).2
    simp at hyT
    refine Br.pos (by simp; omega) ?_
    obtain ⟨W, rfl⟩ : ∃ W : Nat, b = W := ⟨b.toNat, by omega⟩
    obtain ⟨N, hN⟩ : ∃ N : Nat, g.nodes = N := ⟨g.nodes.toNat, by omega⟩
    (repeat' ((conv => whnf); first | refine stp ?_ ))
    refine Lp.mk [.bx 3, .sl 3, .sl 4, .sl 5, .bx 6, .sl 6, .sl 25, .sl 26, .sl 27, .sl 28] (fun m σ => ∃ j vv, j + m = N ∧ (vv = true ∨ j ≤ W) ∧ σ = [Bx 3 (Topo.c false g), Pt 3, Sa 4 (Al L), Sa 5 (I a), Bx 6 (Name.c false x), Pt 6, Sa 25 (Rl T), Sa 26 (I dn.length), Sa 27 (B vv), Sa 28 (I j)]) (N) _ (WkS.weak _ _) ⟨0, false, by simp, by simp, (by first | rfl | (simp only [zlen, zsum, Nat.zero_mul, Int.add_zero, Int.sub_zero, List.nil_append, markG]; rfl))⟩ ?_
    rintro m2 τ ⟨j, vv, hj, hvv, rfl⟩
    by_cases hjN : j < N
    · have f1 : decide ((j : Int) < g.nodes) = true := by rw [hN]; simp; omega
      have q1 := i_Leads g L a r.face j (by omega) (by omega)
      have q2 := i_Producers L r.pref (by omega) (by omega)
      have q3 := l_inK (prodT L r.pref 6) j (by have := prodT_len L r.pref 6; omega)
      have q4 := i_Distance L a j (by omega)
      have hkey : j = W → leads g L a r.face j = true ∧ hasK (prodT L r.pref 6) j = true ∧ (dAt L a j == r.cost) = true := fun he => by subst he; exact ⟨h1, h2, by rw [h3]; simp⟩
      generalize leads g L a r.face j = bl at q1 hkey
      generalize hasK (prodT L r.pref 6) j = bi at q3 hkey
      generalize dAt L a j = dj at q4 hkey
      cases vv with
      | true =>
        (repeat' ((conv => whnf); first | refine stp ?_ ))
        refine Nx.intro (m2 - 1) (by omega) _ (WkS.weak _ _) ⟨j + 1, true, by omega, .inl rfl, ?_⟩
        (repeat' (first | exact rfl | refine consE ?_ ?_ | refine entE ?_ | refine vI ?_ | refine vS ?_ | refine vT ?_ | refine vB ?_))
      | false =>
        have hjW : j ≤ W := by simpa using hvv
        cases bl with
        | false =>
          (repeat' ((conv => whnf); first | refine stp ?_ | refine Rq.mk ⟨by omega, by rw [List.length_map]; omega⟩ ?_ | refine El.mk (getH hdn rfl) ?_ | refine Cl.mk (q1) ?_ | refine Cl.pre (by simp only [shcLL_ints, shcLL_byts, shcLL_strs, Adve.shcs, Data.shcs, Fetc.shcs, Gran.shcs, Keyy.shcs, Link.shcs, Mani.shcs, Name.shcs, Read.shcs, Rout.shcs, Segm.shcs, TEnt.shcs, Topo.shcs]; rfl) ?_))
          refine Nx.intro (m2 - 1) (by omega) _ (WkS.weak _ _) ⟨j + 1, false, by omega, .inr ?_, ?_⟩
          · by_cases he : j = W
            · have := (hkey he).1; simp at this
            · omega
          (repeat' (first | exact rfl | refine consE ?_ ?_ | refine entE ?_ | refine vI ?_ | refine vS ?_ | refine vT ?_ | refine vB ?_))
        | true =>
          cases bi with
          | false =>
            (repeat' ((conv => whnf); first | refine stp ?_ | refine Rq.mk ⟨by omega, by rw [List.length_map]; omega⟩ ?_ | refine El.mk (getH hdn rfl) ?_ | refine Cl.mk (q1) ?_ | refine Cl.mk (q2) ?_ | refine Cl.mk (q3) ?_ | refine Cl.pre (by simp only [shcLL_ints, shcLL_byts, shcLL_strs, Adve.shcs, Data.shcs, Fetc.shcs, Gran.shcs, Keyy.shcs, Link.shcs, Mani.shcs, Name.shcs, Read.shcs, Rout.shcs, Segm.shcs, TEnt.shcs, Topo.shcs]; rfl) ?_))
            refine Nx.intro (m2 - 1) (by omega) _ (WkS.weak _ _) ⟨j + 1, false, by omega, .inr ?_, ?_⟩
            · by_cases he : j = W
              · have := (hkey he).2.1; simp at this
              · omega
            (repeat' (first | exact rfl | refine consE ?_ ?_ | refine entE ?_ | refine vI ?_ | refine vS ?_ | refine vT ?_ | refine vB ?_))
          | true =>
            cases hdj : (dj == r.cost) with
            | true =>
              (repeat' ((conv => whnf); first | refine stp ?_ | refine Rq.mk ⟨by omega, by rw [List.length_map]; omega⟩ ?_ | refine El.mk (getH hdn rfl) ?_ | refine Cl.mk (q1) ?_ | refine Cl.mk (q2) ?_ | refine Cl.mk (q3) ?_ | refine Cl.mk (q4) ?_ | refine Cl.pre (by simp only [shcLL_ints, shcLL_byts, shcLL_strs, Adve.shcs, Data.shcs, Fetc.shcs, Gran.shcs, Keyy.shcs, Link.shcs, Mani.shcs, Name.shcs, Read.shcs, Rout.shcs, Segm.shcs, TEnt.shcs, Topo.shcs]; rfl) ?_))
              refine Nx.intro (m2 - 1) (by omega) _ (WkS.weak _ _) ⟨j + 1, true, by omega, .inl rfl, ?_⟩
              (repeat' (first | exact rfl | refine consE ?_ ?_ | refine entE ?_ | refine vI ?_ | refine vS ?_ | refine vT ?_ | refine vB ?_))
              all_goals first | exact hdj | simp
            | false =>
              (repeat' ((conv => whnf); first | refine stp ?_ | refine Rq.mk ⟨by omega, by rw [List.length_map]; omega⟩ ?_ | refine El.mk (getH hdn rfl) ?_ | refine Cl.mk (q1) ?_ | refine Cl.mk (q2) ?_ | refine Cl.mk (q3) ?_ | refine Cl.mk (q4) ?_ | refine Cl.pre (by simp only [shcLL_ints, shcLL_byts, shcLL_strs, Adve.shcs, Data.shcs, Fetc.shcs, Gran.shcs, Keyy.shcs, Link.shcs, Mani.shcs, Name.shcs, Read.shcs, Rout.shcs, Segm.shcs, TEnt.shcs, Topo.shcs]; rfl) ?_))
              refine Nx.intro (m2 - 1) (by omega) _ (WkS.weak _ _) ⟨j + 1, false, by omega, .inr ?_, ?_⟩
              · by_cases he : j = W
                · have := (hkey he).2.2; rw [hdj] at this; simp at this
                · omega
              (repeat' (first | exact rfl | refine consE ?_ ?_ | refine entE ?_ | refine vI ?_ | refine vS ?_ | refine vT ?_ | refine vB ?_))
              all_goals first | exact hdj | simp
    · have f1 : decide ((j : Int) < g.nodes) = false := by rw [hN]; simp; omega
      obtain rfl : vv = true := by
        rcases hvv with h | h
        · exact h
        · omega
      (repeat' ((conv => whnf); first | refine stp ?_ ))
      refine Nx.intro rn.length (by simp) _ (WkS.weak _ _) ⟨dn ++ [r], rn, by simp [hdn], rfl, ?_⟩
      (repeat' (first | exact rfl | refine consE ?_ ?_ | refine entE ?_ | refine vI ?_ | refine vS ?_ | refine vT ?_ | refine vB ?_))
      all_goals simp
set_option maxRecDepth 20000 in
set_option maxHeartbeats 16000000 in
theorem ex1Paths (l : List UInt8) (hl : ¬ l.length ≤ 1048576) : FO 4 [Ys false l] [Ys false l] (B true) := by
  refine fok envOk mixed is4 ⟨rfl, rfl, ?_⟩
  (repeat' ((conv => whnf); first | refine stp ?_ | refine Cl.mk (big_yes l hl) ?_ | refine Cl.pre (by simp only [shcLL_ints, shcLL_byts, shcLL_strs, Adve.shcs, Data.shcs, Fetc.shcs, Gran.shcs, Keyy.shcs, Link.shcs, Mani.shcs, Name.shcs, Read.shcs, Rout.shcs, Segm.shcs, TEnt.shcs, Topo.shcs]; rfl) ?_))
  exact Vs.Fin.mk (WkR.refl _) (.refl _)
theorem exPaths (l : List UInt8) : FO 4 [Ys false l] [Ys false l] (B true) := by
  by_cases hl : l.length ≤ 1048576
  · obtain ⟨g, r, a, x, g1, g2, g3, g4, g5, k1⟩ := DPub_ok l hl
    obtain ⟨h, m, k, h1, h2, k2⟩ := DCrs_ok l hl
    obtain ⟨d, e, f, d1, d2, k3⟩ := DNea_ok l hl
    obtain ⟨p, q, s, y, p1, p2, p3, p4, k4⟩ := DPat_ok l hl
    obtain ⟨u, v, w, sd, to, u1, u2, k5⟩ := DLea_ok l hl
    obtain ⟨o, z, o1, o2, k6⟩ := DPro_ok l hl
    exact ex0Paths l hl g r a x h m k d e f p q s y u v w sd to o z g1 g2 g3 g4 g5 h1 h2 d1 d2 p1 p2 p3 p4 u1 u2 o1 o2 k1 k2 k3 k4 k5 k6
  · exact ex1Paths l hl
end Go.Proofs.YtigkmijoefibiaaGreat
