/- Contracts of functions of the program: no statement of the seat is proved here. Each under the conditions that stand in it. -/
import Derived.Test.YtigkmijoefibiaaGreatJe
import Derived.Test.YtigkmijoefibiaaGreatM10
import Derived.Test.YtigkmijoefibiaaGreatM6
import Derived.Test.YtigkmijoefibiaaGreatUa
set_option linter.all false
namespace Go.Proofs.YtigkmijoefibiaaGreat
open Go.Vs Go.Proofs
/-! Routes lead closer -/
theorem mem_putT {r y : Rout} : ∀ {l : List Rout}, y ∈ putT r l → y ∈ l ∨ y = r
  | [], h => by simp [putT] at h; exact .inr h
  | x :: l, h => by
    unfold putT at h
    split at h
    · rename_i hs
      rcases List.mem_cons.1 h with h | h
      · right
        simp only [sameT, Bool.and_eq_true, beq_iff_eq, decide_eq_true_eq] at hs
        rw [h]
        cases x; cases r
        simp_all
      · exact .inl (by simp [h])
    · rcases List.mem_cons.1 h with h | h
      · exact .inl (by simp [h])
      · rcases mem_putT h with h | h
        · exact .inl (by simp [h])
        · exact .inr h
theorem mem_addT {r y : Rout} {l : List Rout} (h : y ∈ addT l r) : y ∈ l ∨ y = r := by
  unfold addT at h
  split at h
  · exact mem_putT h
  · exact .inl h
def Met (n : Topo) (l : List Adve) (a : Int) (r : Rout) : Prop := ∃ b : Int, l.any (orig b) = true ∧ (0 ≤ b ∧ b ≤ 5) ∧ r.pref ∈ prefsOf l b ∧ r.cost = dAt l a b ∧ farN n a r.face ∈ clo l a b
theorem fold_all {α : Type} {P : Rout → Prop} {f : List Rout → α → List Rout} : ∀ (l : List α) (o : List Rout), (∀ (o : List Rout) (x : α), x ∈ l → (∀ r ∈ o, P r) → ∀ r ∈ f o x, P r) → (∀ r ∈ o, P r) → ∀ r ∈ l.foldl f o, P r
  | [], _, _, h => h
  | x :: l, o, hf, h => fold_all l (f o x) (fun o y hy => hf o y (by simp [hy])) (hf o x (by simp) h)
theorem far_face {n : Topo} {a x : Int} (h : 0 < faceTo n a x) : farN n a (faceTo n a x) = x := by
  have hb := nbs_len n a
  unfold faceTo faceT at h ⊢
  generalize hl : nbs n a = l at h hb ⊢
  rcases find_splitT (p := fun y => decide (y = x)) l with h1 | ⟨d, y, r, e, h2, h3⟩
  · rw [findI_none h1] at h; omega
  · have hy : y = x := by simpa using h3
    subst hy
    have hf := findI_at h2 h3 0 (r := r)
    rw [← e] at hf
    rw [hf]
    unfold farN
    rw [hl]
    have h4 : inR ((0 : Int) + d.length + 1) 1 l.length = true := inR_t.2 (by rw [e]; simp; omega)
    rw [h4, if_pos rfl, show ((0 : Int) + d.length + 1 - 1).toNat = d.length by omega, e]
    simp [gI]
theorem rch_rng {l : List Adve} {a b : Int} (h : b ∈ rch l a) : 0 ≤ b ∧ b ≤ 5 := by
  rw [rch_def] at h
  simp only [reachL, nnT, List.mem_map, List.mem_filter, List.mem_range] at h
  obtain ⟨k, ⟨hk, -⟩, rfl⟩ := h
  omega
theorem crs_met (n : Topo) (l : List Adve) (a : Int) : ∀ r ∈ crs n l a, Met n l a r := by
  refine fold_all (rch l a) [] (fun o b hb ho => ?_) (by simp)
  unfold cdest
  split
  · exact ho
  · refine fold_all (prefsOf l b) o (fun o p hp ho => ?_) ho
    refine fold_all (clo l a b) o (fun o x hx ho r hr => ?_) ho
    unfold cstep at hr
    split at hr
    · rename_i h
      rcases mem_addT hr with hr | rfl
      · exact ho r hr
      · exact ⟨b, reach_any hb, rch_rng hb, hp, rfl, by rw [far_face h.1]; exact hx⟩
    · exact ho r hr
def hasK (l : List Int) (x : Int) : Bool := l.any fun y => y == x
theorem met_ok {n : Topo} {l : List Adve} {a : Int} {r : Rout} (h : Met n l a r) : ∃ b : Int, l.any (orig b) = true ∧ (0 ≤ b ∧ b ≤ 5) ∧ leads n l a r.face b = true ∧ hasK (prodT l r.pref 6) b = true ∧ dAt l a b = r.cost := by
  obtain ⟨b, h1, h2, h3, h4, h5⟩ := h
  rw [clo_def] at h5
  refine ⟨b, h1, h2, ?_, ?_, h4.symm⟩
  · have hpos : 0 < dAt l a b := Classical.byContradiction fun hn => by rw [clo_neg hn] at h5; simp at h5
    have hm := (clo_mem h5).2
    unfold leads
    simp only [Bool.and_eq_true, decide_eq_true_eq]
    omega
  · unfold hasK
    rw [List.any_eq_true]
    refine ⟨b, ?_, by simp⟩
    obtain ⟨k, rfl⟩ : ∃ k : Nat, b = k := ⟨b.toNat, by omega⟩
    refine List.mem_map.2 ⟨k, List.mem_filter.2 ⟨by simp; omega, ?_⟩, rfl⟩
    unfold prefsOf at h3
    unfold told
    cases hf : l.find? (orig (k : Int)) with
    | none => rw [hf] at h3; simp at h3
    | some y =>
      rw [hf] at h3
      simp only [toldA, List.any_eq_true]
      exact ⟨r.pref, h3, by simp [hasPre]⟩
theorem advs_orig {n : Topo} {rows : List TEnt} {ver b : Int} (h : (advs n rows ver).any (orig b) = true) : 0 ≤ b ∧ b < n.nodes := by
  unfold advs at h
  split at h
  · rw [List.any_eq_true] at h
    obtain ⟨x, hx, ho⟩ := h
    obtain ⟨k, hk, rfl⟩ := List.mem_map.1 hx
    rw [List.mem_range] at hk
    have : (k : Int) = b := by simpa [orig, adv1] using ho
    omega
  · simp at h
theorem pth_pre (n : Topo) (l : List Adve) (x : Name) : ∀ (k : Nat) (o : List Int) (a : Int), ∃ t, pth n l x k o a = o ++ t
  | 0, o, a => ⟨[], by simp [pth]⟩
  | k + 1, o, a => by
    cases h : nhop (crs n l a) x with
    | nil => exact ⟨[], by rw [pth, h]; simp⟩
    | cons f t =>
      rw [pth_cons h]
      split
      · exact ⟨[], by simp⟩
      · obtain ⟨u, hu⟩ := pth_pre n l x k (o ++ [farN n a f]) (farN n a f)
        exact ⟨farN n a f :: u, by rw [hu]; simp⟩
theorem pth_set (n : Topo) (l : List Adve) (x : Name) : ∀ (k : Nat) (o : List Int) (a : Int), o.Nodup → (∀ c ∈ o, 0 ≤ c ∧ c ≤ n.nodes - 1) → (pth n l x k o a).Nodup ∧ ∀ c ∈ pth n l x k o a, 0 ≤ c ∧ c ≤ n.nodes - 1
  | 0, o, a, h1, h2 => ⟨h1, h2⟩
  | k + 1, o, a, h1, h2 => by
    cases h : nhop (crs n l a) x with
    | nil => rw [pth, h]; exact ⟨h1, h2⟩
    | cons f t =>
      rw [pth_cons h]
      split
      · exact ⟨h1, h2⟩
      · rename_i hc
        have hr := far_rng n a f
        simp only [Bool.or_eq_true, decide_eq_true_eq, not_or] at hc
        have hni : farN n a f ∉ o := by
          intro hm
          apply hc.2
          simp only [hasI, List.any_eq_true]
          exact ⟨_, hm, by simp⟩
        refine pth_set n l x k _ _ ?_ ?_
        · rw [List.nodup_append]
          refine ⟨h1, by simp, fun c hc d hd he => ?_⟩
          simp at hd
          exact hni (by rw [← hd, ← he]; exact hc)
        · intro c hc2
          rcases List.mem_append.1 hc2 with hc2 | hc2
          · exact h2 c hc2
          · simp at hc2
            omega
theorem path_ok {n : Topo} {l : List Adve} {a : Int} {x : Name} (ha : 0 ≤ a ∧ a ≤ n.nodes - 1) : (∃ t, path n l a (n.nodes - 1) x = a :: t) ∧ ((path n l a (n.nodes - 1) x).length : Int) ≤ n.nodes := by
  have hr : inR a 0 (n.nodes - 1) = true := inR_t.2 ha
  unfold path
  rw [hr, if_pos rfl]
  refine ⟨?_, ?_⟩
  · obtain ⟨t, ht⟩ := pth_pre n l x 5 [a] a
    exact ⟨t, by rw [ht]; rfl⟩
  · obtain ⟨h1, h2⟩ := pth_set n l x 5 [a] a (by simp) (by simpa using ha)
    have := nodup_le _ ((List.range n.nodes.toNat).map fun (k : Nat) => (k : Int)) h1 (fun c hc => by
      have h3 := h2 c hc
      refine List.mem_map.2 ⟨c.toNat, by rw [List.mem_range]; omega, by omega⟩)
    rw [List.length_map, List.length_range] at this
    omega
abbrev hasKs (l : List Int) (x : Int) : Arg := B (hasK l x)
theorem is42 : FI 42 Tryz.f42 := ⟨⟨Tryz.f42, Tryz.func42, rfl, rfl, rfl, rfl⟩, rfl⟩
set_option maxRecDepth 20000 in
set_option maxHeartbeats 16000000 in
theorem l_inK (l : List Int) (x : Int) (hl : l.length ≤ 1099511627776) : FO 42 [Is false l, I x] [Is false l, I x] (B (hasK l x)) := by
  refine fok envOk mixed is42 ⟨rfl, rfl, ?_⟩
  (repeat' ((conv => whnf); first | refine stp ?_ ))
  refine Lp.mk [.sl 0, .sl 1, .sl 5] (fun m σ => ∃ d r, l = d ++ r ∧ m = r.length ∧ hasK d x = false ∧ σ = [Sa 0 (Is false l), Sa 1 (I x), Sa 5 (I d.length)]) (l.length) _ (WkS.weak _ _) ⟨[], l, rfl, rfl, rfl, (by first | rfl | (simp only [zlen, zsum, Nat.zero_mul, Int.add_zero, Int.sub_zero, List.nil_append, markG]; rfl))⟩ ?_
  rintro m τ ⟨d, r, rfl, rfl, hd, rfl⟩
  refine Nm.mk lenC ?_
  cases r with
  | nil =>
    refine Br.neg (by simp) ?_
    (repeat' ((conv => whnf); first | refine stp ?_ ))
    refine Vs.Fin.mk (WkR.eq ?_) (.refl _)
    rw [List.append_nil, hd]
  | cons y r =>
    simp at hl
    refine Br.pos (by simp; omega) ?_
    (repeat' ((conv => whnf); first | refine stp ?_ | refine El.mk (getA rfl) ?_ | refine Cl.pre (by simp only [shcLL_ints, shcLL_byts, shcLL_strs, Adve.shcs, Data.shcs, Fetc.shcs, Gran.shcs, Keyy.shcs, Link.shcs, Mani.shcs, Name.shcs, Read.shcs, Rout.shcs, Segm.shcs, TEnt.shcs, Topo.shcs]; rfl) ?_))
    refine Br.mk (fun h => ?_) (fun h => ?_)
    · (repeat' ((conv => whnf); first | refine stp ?_ ))
      refine Vs.Fin.mk (WkR.eq ?_) (.refl _)
      rw [show hasK (d ++ y :: r) x = true by simp only [hasK, List.any_append, List.any_cons, h]; simp]
    · (repeat' ((conv => whnf); first | refine stp ?_ ))
      refine Nx.intro r.length (by simp) _ (WkS.weak _ _) ⟨d ++ [y], r, by simp, rfl, by simp only [hasK, List.any_append, List.any_cons, List.any_nil, h] at hd ⊢; rw [hd]; rfl, ?_⟩
      rw [len1]; rfl
theorem is37 : FI 37 Tryz.f37 := ⟨⟨Tryz.f37, Tryz.func37, rfl, rfl, rfl, rfl⟩, rfl⟩
set_option maxRecDepth 20000 in
set_option maxHeartbeats 16000000 in
theorem same_IntsK (l : List Int) (hl : l.length ≤ 1099511627776) : FO 37 [Is false l, Is false l] [Is false l, Is false l] (B true) := by
  refine fok envOk mixed is37 ⟨rfl, rfl, ?_⟩
  (repeat' ((conv => whnf); first | refine stp ?_ ))
  refine Lp.mk [.sl 0, .sl 1, .sl 5] (fun m σ => ∃ d r, l = d ++ r ∧ m = r.length ∧ σ = [Sa 0 (Is false l), Sa 1 (Is false l), Sa 5 (I d.length)]) (l.length) _ (WkS.weak _ _) ⟨[], l, rfl, rfl, (by first | rfl | (simp only [zlen, zsum, Nat.zero_mul, Int.add_zero, Int.sub_zero, List.nil_append, markG]; rfl))⟩ ?_
  rintro m τ ⟨d, r, hl2, rfl, rfl⟩
  have hy : l.length = d.length + r.length := by rw [hl2]; simp
  refine Nm.mk lenC ?_
  cases r with
  | nil =>
    refine Br.neg (by simp at * <;> omega) ?_
    (repeat' ((conv => whnf); first | refine stp ?_ ))
    exact Vs.Fin.mk (WkR.refl _) (.refl _)
  | cons x r =>
    simp at hy
    refine Br.pos (by simp <;> omega) ?_
    (repeat' ((conv => whnf); first | refine stp ?_ | refine El.mk (getH hl2 rfl) ?_ | refine Cl.pre (by simp only [shcLL_ints, shcLL_byts, shcLL_strs, Adve.shcs, Data.shcs, Fetc.shcs, Gran.shcs, Keyy.shcs, Link.shcs, Mani.shcs, Name.shcs, Read.shcs, Rout.shcs, Segm.shcs, TEnt.shcs, Topo.shcs]; rfl) ?_))
    refine Nx.intro r.length (by simp) _ (WkS.weak _ _) ⟨d ++ [x], r, by simp [hl2], rfl, ?_⟩
    rw [len1]; rfl
theorem is31 : FI 31 Tryz.f31 := ⟨⟨Tryz.f31, Tryz.func31, rfl, rfl, rfl, rfl⟩, rfl⟩
set_option maxRecDepth 20000 in
set_option maxHeartbeats 16000000 in
theorem same_Routes (l : List Rout) (hl : l.length ≤ 1048576) (hz : ∀ x ∈ l, x.pref.parts.length ≤ 1048576) : FO 31 [Rl l, Rl l] [Rl l, Rl l] (B true) := by
  refine fok envOk mixed is31 ⟨rfl, rfl, ?_⟩
  (repeat' ((conv => whnf); first | refine stp ?_ ))
  refine Lp.mk [.sl 0, .sl 1, .sl 5] (fun m σ => ∃ d r, l = d ++ r ∧ m = r.length ∧ σ = [Sa 0 (Rl l), Sa 1 (Rl l), Sa 5 (I d.length)]) (l.length) _ (WkS.weak _ _) ⟨[], l, rfl, rfl, (by first | rfl | (simp only [zlen, zsum, Nat.zero_mul, Int.add_zero, Int.sub_zero, List.nil_append, markG]; rfl))⟩ ?_
  rintro m τ ⟨d, r, hl2, rfl, rfl⟩
  have hy : l.length = d.length + r.length := by rw [hl2]; simp
  refine Nm.mk lenC ?_
  cases r with
  | nil =>
    refine Br.neg (by simp at * <;> omega) ?_
    (repeat' ((conv => whnf); first | refine stp ?_ ))
    exact Vs.Fin.mk (WkR.refl _) (.refl _)
  | cons x r =>
    simp at hy
    have hx := hz x (by rw [hl2]; simp)
    refine Br.pos (by simp <;> omega) ?_
    (repeat' ((conv => whnf); first | refine stp ?_ | refine El.mk (getH hl2 rfl) ?_ | refine Cl.mk (same_Name x.pref (by omega)) ?_ | refine Cl.pre (by simp only [shcLL_ints, shcLL_byts, shcLL_strs, Adve.shcs, Data.shcs, Fetc.shcs, Gran.shcs, Keyy.shcs, Link.shcs, Mani.shcs, Name.shcs, Read.shcs, Rout.shcs, Segm.shcs, TEnt.shcs, Topo.shcs]; rfl) ?_))
    refine Nx.intro r.length (by simp) _ (WkS.weak _ _) ⟨d ++ [x], r, by simp [hl2], rfl, ?_⟩
    rw [len1]; rfl
theorem sh_Ro {f : Nat} {args outs : List Arg} {l : List Rout} (h : FO f args outs (Rt l)) : FO f args outs (Rl l) := by
  have := sh_resF h
  simp only [shcL, Vs.shc, Rout.shcs] at this
  exact this
theorem DCrs_ok (code : List UInt8) (hl : code.length ≤ 1048576) : ∃ (n : Topo) (l : List Adve) (a : Int), n.links.length ≤ 200 ∧ l.length + sumN Adve.size l ≤ 2000 ∧ FO 25 [Ys false code] [Ys false code] (NLa n l a) := by
  obtain ⟨c0, i0, k0⟩ := new_ok code hl
  obtain ⟨c1, n, l, i1, hn, -, hz, k1⟩ := any22_ok i0
  obtain ⟨c2, a, i2, -, -, k2⟩ := below_ok i1 7
  exact ⟨n, l, a, hn, hz, DCrs0 code c0 c1 c2 n l a k0 k1 k2⟩
theorem DPro_ok (code : List UInt8) (hl : code.length ≤ 1048576) : ∃ (l : List Adve) (x : Name), l.length + sumN Adve.size l ≤ 2000 ∧ strsSize x.parts ≤ 100 ∧ FO 30 [Ys false code] [Ys false code] (LX l x) := by
  obtain ⟨c0, i0, k0⟩ := new_ok code hl
  obtain ⟨c1, n, l, i1, hn, -, hz, k1⟩ := any22_ok i0
  obtain ⟨c2, x, i2, hx, k2⟩ := name22_ok i1
  exact ⟨l, x, hz, hx, DPro0 code c0 c1 c2 n l x k0 k1 k2⟩
theorem DNea_ok (code : List UInt8) (hl : code.length ≤ 1048576) : ∃ (l : List Adve) (a : Int) (x : Name), l.length + sumN Adve.size l ≤ 2000 ∧ strsSize x.parts ≤ 100 ∧ FO 27 [Ys false code] [Ys false code] (LaX l a x) := by
  obtain ⟨c0, i0, k0⟩ := new_ok code hl
  obtain ⟨c1, n, l, i1, hn, -, hz, k1⟩ := any22_ok i0
  obtain ⟨c2, a, i2, -, -, k2⟩ := below_ok i1 7
  obtain ⟨c3, x, i3, hx, k3⟩ := name22_ok i2
  exact ⟨l, a, x, hz, hx, DNea0 code l a x (Tri0 code c0 c1 c2 c3 n l a x k0 k1 k2 k3)⟩
theorem DPat_ok (code : List UInt8) (hl : code.length ≤ 1048576) : ∃ (n : Topo) (l : List Adve) (a : Int) (x : Name), n.links.length ≤ 200 ∧ (0 ≤ n.nodes ∧ n.nodes ≤ 7) ∧ l.length + sumN Adve.size l ≤ 2000 ∧ strsSize x.parts ≤ 100 ∧ FO 28 [Ys false code] [Ys false code] (NLax n l a x) := by
  obtain ⟨c0, i0, k0⟩ := new_ok code hl
  obtain ⟨c1, n, l, i1, hn, hd, hz, k1⟩ := any22_ok i0
  obtain ⟨c2, a, i2, -, -, k2⟩ := below_ok i1 7
  obtain ⟨c3, x, i3, hx, k3⟩ := name22_ok i2
  exact ⟨n, l, a, x, hn, hd, hz, hx, DPat0 code c0 c1 c2 c3 n l a x k0 k1 k2 k3⟩
theorem DLea_ok (code : List UInt8) (hl : code.length ≤ 1048576) : ∃ (n : Topo) (l : List Adve) (a b c : Int), n.links.length ≤ 200 ∧ l.length + sumN Adve.size l ≤ 2000 ∧ FO 29 [Ys false code] [Ys false code] (NL3 n l a b c) := by
  obtain ⟨c0, i0, k0⟩ := new_ok code hl
  obtain ⟨c1, n, l, i1, hn, -, hz, k1⟩ := any22_ok i0
  obtain ⟨c2, a, i2, -, -, k2⟩ := below_ok i1 6
  obtain ⟨c3, b, i3, -, -, k3⟩ := below_ok i2 4
  obtain ⟨c4, c, i4, hc, -, k4⟩ := below_ok i3 7
  exact ⟨n, l, a, b, c - 1, hn, hz, DLea0 code c0 c1 c2 c3 c4 n l a b c (hc (by omega)) k0 k1 k2 k3 k4⟩
theorem DPub_ok (code : List UInt8) (hl : code.length ≤ 1048576) : ∃ (n : Topo) (r : List TEnt) (a : Int) (x : Name), n.links.length ≤ 200 ∧ (2 ≤ n.nodes ∧ n.nodes ≤ 6) ∧ (advs n r 1).length + sumN Adve.size (advs n r 1) ≤ 2000 ∧ (0 ≤ a ∧ a ≤ n.nodes - 1) ∧ strsSize x.parts ≤ 100 ∧ FO 24 [Ys false code] [Ys false code] (NLax n (advs n r 1) a x) := by
  obtain ⟨c0, i0, k0⟩ := new_ok code hl
  obtain ⟨c1, n, r, i1, hn, hd, hr, k1⟩ := draw22_ok i0
  obtain ⟨c2, a, i2, ha, -, k2⟩ := below_ok i1 n.nodes
  have ha := ha (by omega)
  obtain ⟨c3, x, i3, hx, k3⟩ := name22_ok i2
  exact ⟨n, r, a, x, by omega, hd, advs_smallF hr, by omega, hx, DPub0 code c0 c1 c2 c3 n _ a x k0 k1 k2 k3⟩
end Go.Proofs.YtigkmijoefibiaaGreat
