/- Contracts of functions of the program: no statement of the seat is proved here. Each under the conditions that stand in it. -/
import Derived.Test.YtigkmijoefibiaaGreatJd
import Derived.Test.YtigkmijoefibiaaGreatHc
set_option linter.all false
namespace Go.Proofs.YtigkmijoefibiaaGreat
open Go.Vs Go.Proofs
/-! The way to a producer -/
theorem nodup_le : ∀ (l m : List Int), l.Nodup → (∀ x ∈ l, x ∈ m) → l.length ≤ m.length
  | [], m, _, _ => Nat.zero_le _
  | x :: l, m, h, hm => by
    rw [List.nodup_cons] at h
    have h1 := nodup_le l (m.erase x) h.2 (fun y hy => (List.mem_erase_of_ne (by rintro rfl; exact h.1 hy)).2 (hm y (by simp [hy])))
    have h2 := List.length_erase_of_mem (hm x (by simp))
    have h3 : 0 < m.length := List.length_pos_of_mem (hm x (by simp))
    simp only [List.length_cons]
    omega
theorem vTG_split : ∀ (l d : List Rout), vTG d l = true → (∀ r ∈ l, okT r = true) ∧ (∀ r ∈ l, ∀ y ∈ d, sameT r.pref r.face y = false) ∧ l.Pairwise (fun y r => sameT r.pref r.face y = false)
  | [], d, _ => by simp
  | x :: l, d, h => by
    simp only [vTG, Bool.and_eq_true] at h
    obtain ⟨⟨h1, h2⟩, h3⟩ := h
    obtain ⟨i1, i2, i3⟩ := vTG_split l (d ++ [x]) h3
    have h2' : ∀ y ∈ d, sameT x.pref x.face y = false := by
      have : d.any (sameT x.pref x.face) = false := by simpa using h2
      rw [List.any_eq_false] at this
      intro y hy
      simpa using this y hy
    refine ⟨?_, ?_, List.pairwise_cons.2 ⟨fun r hr => i2 r hr x (by simp), i3⟩⟩
    · intro r hr
      rcases List.mem_cons.1 hr with rfl | hr
      · exact h1
      · exact i1 r hr
    · intro r hr y hy
      rcases List.mem_cons.1 hr with rfl | hr
      · exact h2' y hy
      · exact i2 r hr y (by simp [hy])
theorem vRou_face {l : List Rout} (h : vRou l = true) (q : Rout) : (hasP q l).length ≤ 6 := by
  simp only [vRou, Bool.and_eq_true] at h
  obtain ⟨h1, -, h3⟩ := vTG_split l [] h.1
  have hp : ((hasP q l).map (·.face)).Nodup := by
    unfold List.Nodup
    rw [List.pairwise_map]
    have h4 : (hasP q l).Pairwise (fun y r => sameT r.pref r.face y = false) := h3.sublist List.filter_sublist
    refine List.Pairwise.imp_of_mem (fun {a b} ha hb hab he => ?_) h4
    have ha2 : a.pref = q.pref := by simpa using (List.mem_filter.1 ha).2
    have hb2 : b.pref = q.pref := by simpa using (List.mem_filter.1 hb).2
    simp [sameT, he, ha2, hb2] at hab
  have := nodup_le _ [1, 2, 3, 4, 5, 6] hp (fun x hx => by
    obtain ⟨r, hr, rfl⟩ := List.mem_map.1 hx
    have := h1 r (List.mem_filter.1 hr).1
    simp only [okT, Bool.and_eq_true] at this
    have hf := inR_t.1 this.1.2
    simp; omega)
  simpa using this
noncomputable def pth (n : Topo) (l : List Adve) (x : Name) : Nat → List Int → Int → List Int
  | 0, o, _ => o
  | k + 1, o, a => match nhop (crs n l a) x with
    | [] => o
    | f :: _ => if (decide (farN n a f < 0) || hasI o (farN n a f)) = true then o else pth n l x k (o ++ [farN n a f]) (farN n a f)
noncomputable def path (n : Topo) (l : List Adve) (a w : Int) (x : Name) : List Int := if inR a 0 w = true then pth n l x 5 [a] a else []
theorem pth_len (n : Topo) (l : List Adve) (x : Name) : ∀ (k : Nat) (o : List Int) (a : Int), (pth n l x k o a).length ≤ o.length + k
  | 0, o, a => by simp [pth]
  | k + 1, o, a => by
    rw [pth]
    split
    · omega
    · split
      · omega
      · rename_i f _ _ _
        have := pth_len n l x k (o ++ [farN n a f]) (farN n a f)
        simp only [List.length_append, List.length_singleton] at this
        omega
theorem path_len (n : Topo) (l : List Adve) (a w : Int) (x : Name) : (path n l a w x).length ≤ 6 := by
  unfold path
  split
  · have := pth_len n l x 5 [a] a
    simpa using this
  · simp
theorem far_rng (n : Topo) (a f : Int) : farN n a f = -1 ∨ (0 ≤ farN n a f ∧ farN n a f ≤ n.nodes - 1) := by
  unfold farN
  split
  · rename_i h
    right
    have hf := inR_t.1 h
    obtain ⟨k, hk⟩ : ∃ k : Nat, f - 1 = k := ⟨(f - 1).toNat, by omega⟩
    have hkl : k < (nbs n a).length := by omega
    have hm : gI (nbs n a) (f - 1).toNat ∈ nbs n a := by
      rw [show (f - 1).toNat = k by omega]
      have : gI (nbs n a) k = (nbs n a)[k] := by simp [gI, hkl]
      rw [this]; exact List.getElem_mem hkl
    obtain ⟨j, hj, he⟩ := List.mem_map.1 hm
    rw [List.mem_filter, List.mem_range] at hj
    have hs := nsz_b n
    rw [← he]
    have h5 : (nsz n : Int) = ma 0 (mi n.nodes 6) := hs.2
    unfold ma mi at h5
    split at h5 <;> split at h5 <;> omega
  · exact .inl rfl
noncomputable def pG (n : Topo) (l : List Adve) (x : Name) (w : Int) (o : List Int) (a : Int) : List Int := if (inR a 0 w && (!hasI o a && decide (o.length < 6))) = true then pth n l x (5 - o.length) (o ++ [a]) a else o
theorem pG_step {n : Topo} {l : List Adve} {x : Name} {w a f : Int} {o t : List Int} (hw : ∀ b : Int, farN n a f = b → (0 ≤ b → inR b 0 w = true)) (hl : o.length < 6) (hn : nhop (crs n l a) x = f :: t) :
    pth n l x (5 - o.length) (o ++ [a]) a = pG n l x w (o ++ [a]) (farN n a f) := by
  unfold pG
  obtain ⟨k, hk⟩ : ∃ k, 5 - o.length = k := ⟨_, rfl⟩
  rw [hk]
  cases k with
  | zero =>
    rw [pth, if_neg]
    simp; intros; omega
  | succ k =>
    rw [pth, hn]
    simp only
    have hb := far_rng n a f
    have hw2 := hw _ rfl
    have hk2 : 5 - (o ++ [a]).length = k := by simp; omega
    rw [hk2]
    generalize farN n a f = b at *
    by_cases h0 : b < 0
    · rw [if_pos (by simp [h0]), if_neg]
      intro h
      simp only [Bool.and_eq_true] at h
      have := inR_t.1 h.1
      omega
    · have h1 := hw2 (by omega)
      cases h2 : hasI (o ++ [a]) b with
      | true => rw [if_pos (by simp), if_neg (by simp)]
      | false => rw [if_neg (by simp; omega), if_pos (by simp [h1]; omega)]
theorem path_pG (n : Topo) (l : List Adve) (a w : Int) (x : Name) : path n l a w x = pG n l x w [] a := by
  unfold path pG
  cases h : inR a 0 w <;> simp [hasI]
theorem crs_hop (n : Topo) (l : List Adve) (a : Int) (x : Name) : (nhop (crs n l a) x).length ≤ 6 := by
  have h1 := crs_ok n l a
  unfold nhop
  split
  · simp
  · rename_i q _
    rw [List.length_map, srt_len]
    exact vRou_face h1 q
theorem dOwn_ints (H : List Int) : dOwnL (Is true H).2 := by simp [dOwnL, dOwn]
theorem is9 : FI 9 Tryz.f9 := ⟨⟨Tryz.f9, Tryz.func9, rfl, rfl, rfl, rfl⟩, rfl⟩
set_option maxRecDepth 20000 in
set_option maxHeartbeats 16000000 in
theorem s_PathTo (n : Topo) (l : List Adve) (a : Int) (x : Name) (w : Int) (hw : IntKind.wrap .i64 (n.nodes - 1) = w) (hr : ∀ b : Int, 0 ≤ b → b ≤ n.nodes - 1 → inR b 0 w = true) (hn : n.links.length ≤ 1048576) (hz : l.length + sumN Adve.size l ≤ 1048576) (hx : strsSize x.parts ≤ 1048576) : FO 9 [A (Topo.c false n), Al l, I a, A (Name.c false x)] [A (Topo.c false n), Al l, I a, A (Name.c false x)] (Is true (path n l a w x)) := by
  refine fok envOk mixed is9 ⟨rfl, rfl, ?_⟩
  have hpl := path_len n l a w x
  rw [path_pG] at hpl ⊢
  generalize hP : pG n l x w [] a = P at hpl ⊢
  (repeat' ((conv => whnf); first | refine stp ?_ ))
  refine Lp.mk [.sl 1, .sl 2, .bx 4, .sl 4, .bx 7, .sl 7, .sl 9] (fun m σ => ∃ o b, P = pG n l x w o b ∧ o.length ≤ 6 ∧ m = 6 - o.length ∧ σ = [Sa 1 (Al l), Sa 2 (I b), Bx 4 ((Topo.c false n)), Pt 4, Bx 7 ((Name.c false x)), Pt 7, Sa 9 (O (.sl true .non 1 (ints o)))]) (6) _ (WkS.weak _ _) ⟨[], a, hP.symm, by simp, by simp, (by first | rfl | (simp only [zlen, zsum, Nat.zero_mul, Int.add_zero, Int.sub_zero, List.nil_append, markG]; rfl))⟩ ?_
  rintro m τ ⟨o, b, hP2, ho, rfl, rfl⟩
  have hin := s_l1In b 0 w
  have hha := s_l19Has o b (by omega)
  have hcr := s_ComputeRoutes n l b (by omega) (by omega)
  have hcv := (vRou_size (crs_ok n l b)).2
  have hnh := s_NextHops (crs n l b) x (by omega) (by omega)
  have hcl := crs_hop n l b x
  cases h1 : inR b 0 w with
  | false =>
    rw [h1] at hin
    rw [hP2, show pG n l x w o b = o by simp [pG, h1]]
    (repeat' ((conv => whnf); first | refine stp ?_ | refine Nm.mk hw ?_ | refine Cl.mk (hin) ?_ | refine Cl.pre (by simp only [shcLL_ints, shcLL_byts, shcLL_strs, Adve.shcs, Fetc.shcs, Gran.shcs, Keyy.shcs, Link.shcs, Mani.shcs, Name.shcs, Read.shcs, Rout.shcs, Segm.shcs, TEnt.shcs, Topo.shcs]; rfl) ?_))
    exact Vs.Fin.mk (WkR.of (.top .nil)) (.refl _)
  | true =>
    rw [h1] at hin
    cases h2 : hasI o b with
    | true =>
      rw [h2] at hha
      rw [hP2, show pG n l x w o b = o by simp [pG, h2]]
      (repeat' ((conv => whnf); first | refine stp ?_ | refine Nm.mk hw ?_ | refine Cl.mk (hin) ?_ | refine Cl.mk (hha) ?_ | refine Cl.pre (by simp only [shcLL_ints, shcLL_byts, shcLL_strs, Adve.shcs, Fetc.shcs, Gran.shcs, Keyy.shcs, Link.shcs, Mani.shcs, Name.shcs, Read.shcs, Rout.shcs, Segm.shcs, TEnt.shcs, Topo.shcs]; rfl) ?_))
      exact Vs.Fin.mk (WkR.of (.top .nil)) (.refl _)
    | false =>
      rw [h2] at hha
      by_cases h3 : o.length < 6
      · have f3 : decide ((o.length : Int) < 6) = true := by simp; omega
        have e1 : pG n l x w o b = pth n l x (5 - o.length) (o ++ [b]) b := by unfold pG; rw [if_pos (by simp [h1, h2, h3])]
        rw [e1] at hP2
        have hst := fun f t => pG_step (n := n) (l := l) (x := x) (w := w) (a := b) (f := f) (o := o) (t := t) (fun c hc h0 => hr c h0 (by have := far_rng n b f; omega)) h3
        have hr2 := fun f => s_RemoteEnd n b f (by omega)
        have hnil : nhop (crs n l b) x = [] → P = o ++ [b] := fun h => by
          rw [hP2]
          cases 5 - o.length with
          | zero => rfl
          | succ k => rw [pth, h]
        generalize crs n l b = C at *
        generalize nhop C x = H at *
        cases H with
        | nil =>
          rw [hnil rfl]
          (repeat' ((conv => whnf); first | refine stp ?_ | refine Nm.mk hw ?_ | refine Cl.mk (hin) ?_ | refine Cl.mk (hha) ?_ | refine Rq.mk (by simp; omega) ?_ | refine Cl.mk (hcr) ?_ | refine Cl.mk (hnh) ?_ | refine Rq.mk (dOwn_ints _) ?_ | refine Cl.pre (by simp only [shcLL_ints, shcLL_byts, shcLL_strs, Adve.shcs, Fetc.shcs, Gran.shcs, Keyy.shcs, Link.shcs, Mani.shcs, Name.shcs, Read.shcs, Rout.shcs, Segm.shcs, TEnt.shcs, Topo.shcs]; rfl) ?_))
          exact Vs.Fin.mk (WkR.of (.sl1 (by simp) .nil)) (.refl _)
        | cons f t =>
          have f4 : (((f :: t).length : Int) == 0) = false := by simp; omega
          have hst1 := hst f t rfl
          (repeat' ((conv => whnf); first | refine stp ?_ | refine Nm.mk hw ?_ | refine Cl.mk (hin) ?_ | refine Cl.mk (hha) ?_ | refine Rq.mk (by simp; omega) ?_ | refine Cl.mk (hcr) ?_ | refine Cl.mk (hnh) ?_ | refine Rq.mk (dOwn_ints _) ?_ | refine El.mk rfl ?_ | refine Cl.mk (hr2 f) ?_ | refine Cl.pre (by simp only [shcLL_ints, shcLL_byts, shcLL_strs, Adve.shcs, Fetc.shcs, Gran.shcs, Keyy.shcs, Link.shcs, Mani.shcs, Name.shcs, Read.shcs, Rout.shcs, Segm.shcs, TEnt.shcs, Topo.shcs]; rfl) ?_))
          refine Nx.intro (6 - (o ++ [b]).length) (by simp; omega) _ (WkS.weak _ _) ⟨o ++ [b], farN n b f, by rw [hP2, hst1], by simp; omega, rfl, ?_⟩
          (repeat' (first | exact rfl | refine consE ?_ ?_ | refine entE ?_ | refine vI ?_ | refine vS ?_ | refine vT ?_ | refine vB ?_))
          all_goals simp
      · have f3 : decide ((o.length : Int) < 6) = false := by simp; omega
        rw [hP2, show pG n l x w o b = o by unfold pG; rw [if_neg (by simp [h3])]]
        (repeat' ((conv => whnf); first | refine stp ?_ | refine Nm.mk hw ?_ | refine Cl.mk (hin) ?_ | refine Cl.mk (hha) ?_ | refine Cl.pre (by simp only [shcLL_ints, shcLL_byts, shcLL_strs, Adve.shcs, Fetc.shcs, Gran.shcs, Keyy.shcs, Link.shcs, Mani.shcs, Name.shcs, Read.shcs, Rout.shcs, Segm.shcs, TEnt.shcs, Topo.shcs]; rfl) ?_))
        exact Vs.Fin.mk (WkR.of (.top .nil)) (.refl _)
theorem pth_nil {n : Topo} {l : List Adve} {x : Name} {o : List Int} {a : Int} (h : nhop (crs n l a) x = []) (k : Nat) : pth n l x k o a = o := by
  cases k with
  | zero => rfl
  | succ k => rw [pth, h]
theorem pth_cons {n : Topo} {l : List Adve} {x : Name} {o t : List Int} {a f : Int} (h : nhop (crs n l a) x = f :: t) (k : Nat) : pth n l x (k + 1) o a = if (decide (farN n a f < 0) || hasI o (farN n a f)) = true then o else pth n l x k (o ++ [farN n a f]) (farN n a f) := by rw [pth, h]
theorem is13 : FI 13 Tryz.f13 := ⟨⟨Tryz.f13, Tryz.func13, rfl, rfl, rfl, rfl⟩, rfl⟩
set_option maxRecDepth 20000 in
set_option maxHeartbeats 16000000 in
theorem i_PathTo (n : Topo) (l : List Adve) (a : Int) (x : Name) (w : Int) (hw : IntKind.wrap .i64 (n.nodes - 1) = w) (hn : n.links.length ≤ 1048576) (hz : l.length + sumN Adve.size l ≤ 1048576) (hx : strsSize x.parts ≤ 1048576) : FO 13 [A (Topo.c false n), Al l, I a, A (Name.c false x)] [A (Topo.c false n), Al l, I a, A (Name.c false x)] (Is true (path n l a w x)) := by
  refine fok envOk mixed is13 ⟨rfl, rfl, ?_⟩
  have hpl := path_len n l a w x
  have hin := i_InRange a 0 w
  cases h1 : inR a 0 w with
  | false =>
    rw [h1] at hin
    rw [show path n l a w x = [] by simp [path, h1]]
    (repeat' ((conv => whnf); first | refine stp ?_ | refine Nm.mk hw ?_ | refine Cl.mk (hin) ?_ | refine Cl.pre (by simp only [shcLL_ints, shcLL_byts, shcLL_strs, Adve.shcs, Fetc.shcs, Gran.shcs, Keyy.shcs, Link.shcs, Mani.shcs, Name.shcs, Read.shcs, Rout.shcs, Segm.shcs, TEnt.shcs, Topo.shcs]; rfl) ?_))
    exact Vs.Fin.mk (WkR.of (.nils .nil)) (.refl _)
  | true =>
    rw [h1] at hin
    have e0 : path n l a w x = pth n l x 5 [a] a := by simp [path, h1]
    rw [e0] at hpl ⊢
    generalize hP : pth n l x 5 [a] a = P at hpl ⊢
    (repeat' ((conv => whnf); first | refine stp ?_ | refine Nm.mk hw ?_ | refine Cl.mk (hin) ?_ | refine Cl.pre (by simp only [shcLL_ints, shcLL_byts, shcLL_strs, Adve.shcs, Fetc.shcs, Gran.shcs, Keyy.shcs, Link.shcs, Mani.shcs, Name.shcs, Read.shcs, Rout.shcs, Segm.shcs, TEnt.shcs, Topo.shcs]; rfl) ?_))
    refine Lp.mk [.sl 1, .bx 4, .sl 4, .bx 7, .sl 7, .sl 9] (fun m σ => ∃ d b, P = pth n l x (5 - d.length) (d ++ [b]) b ∧ d.length ≤ 5 ∧ m = 5 - d.length ∧ σ = [Sa 1 (Al l), Bx 4 ((Topo.c false n)), Pt 4, Bx 7 ((Name.c false x)), Pt 7, Sa 9 (O (.sl true .non 1 (ints (d ++ [b]))))]) (5) _ (WkS.weak _ _) ⟨[], a, hP.symm, by simp, by simp, (by first | rfl | (simp only [zlen, zsum, Nat.zero_mul, Int.add_zero, Int.sub_zero, List.nil_append, markG]; rfl))⟩ ?_
    rintro m τ ⟨d, b, hP2, hd, rfl, rfl⟩
    have hcr := i_ComputeRoutes n l b (by omega) (by omega)
    have hcv := (vRou_size (crs_ok n l b)).2
    have hnh := i_NextHops (crs n l b) x (by omega) (by omega) (fun q _ => by have := vRou_face (crs_ok n l b) q; omega)
    have hcl := crs_hop n l b x
    have hr2 := fun f => i_RemoteEnd n b f (by omega)
    by_cases h3 : d.length < 5
    · have f3 : decide (((d ++ [b]).length : Int) < 6) = true := by simp; omega
      have e1 : (((d ++ [b]).length : Nat) : Int) - 1 = (d.length : Int) := by simp
      have hi : d.length < (d ++ [b]).length := by simp
      obtain ⟨k, hk⟩ : ∃ k, 5 - d.length = k + 1 := ⟨4 - d.length, by omega⟩
      have hnil := fun h => pth_nil (n := n) (l := l) (x := x) (o := d ++ [b]) (a := b) h (5 - d.length)
      have hcons := fun f t h => pth_cons (n := n) (l := l) (x := x) (o := d ++ [b]) (a := b) (f := f) (t := t) h k
      rw [← hk] at hcons
      generalize crs n l b = C at *
      generalize nhop C x = H at *
      cases H with
      | nil =>
        rw [hP2, hnil rfl]
        (repeat' ((conv => whnf); first | refine stp ?_ | refine Rq.mk ⟨by omega, by rw [List.length_map]; omega⟩ ?_ | refine El.mk (getH (d := d) (r := []) rfl e1) ?_ | refine Cl.mk (hcr) ?_ | refine Cl.mk (hnh) ?_ | refine Rq.mk (dOwn_ints _) ?_ | refine Cl.pre (by simp only [shcLL_ints, shcLL_byts, shcLL_strs, Adve.shcs, Fetc.shcs, Gran.shcs, Keyy.shcs, Link.shcs, Mani.shcs, Name.shcs, Read.shcs, Rout.shcs, Segm.shcs, TEnt.shcs, Topo.shcs]; rfl) ?_))
        exact Vs.Fin.mk (WkR.of (.top .nil)) (.refl _)
      | cons f t =>
        have f4 : (((f :: t).length : Int) == 0) = false := by simp; omega
        have hst := hcons f t rfl
        have hCo := Contains_int (d ++ [b]) (farN n b f) (by simp; omega)
        have hr3 := hr2 f
        have hrng := far_rng n b f
        generalize farN n b f = c at *
        generalize farF n b f = c2 at *
        by_cases h4 : c < 0
        · have f5 : decide (c < 0) = true := by simpa using h4
          rw [hP2, hst, if_pos (by simp [f5])]
          (repeat' ((conv => whnf); first | refine stp ?_ | refine Rq.mk ⟨by omega, by rw [List.length_map]; omega⟩ ?_ | refine El.mk (getH (d := d) (r := []) rfl e1) ?_ | refine Cl.mk (hcr) ?_ | refine Cl.mk (hnh) ?_ | refine Rq.mk (dOwn_ints _) ?_ | refine El.mk rfl ?_ | refine Cl.mk (hr3) ?_ | refine Cl.pre (by simp only [shcLL_ints, shcLL_byts, shcLL_strs, Adve.shcs, Fetc.shcs, Gran.shcs, Keyy.shcs, Link.shcs, Mani.shcs, Name.shcs, Read.shcs, Rout.shcs, Segm.shcs, TEnt.shcs, Topo.shcs]; rfl) ?_))
          exact Vs.Fin.mk (WkR.of (.top .nil)) (.refl _)
        · have f5 : decide (c < 0) = false := by simpa using h4
          cases h5 : hasI (d ++ [b]) c with
          | true =>
            rw [h5] at hCo
            rw [hP2, hst, if_pos (by simp [h5])]
            (repeat' ((conv => whnf); first | refine stp ?_ | refine Rq.mk ⟨by omega, by rw [List.length_map]; omega⟩ ?_ | refine El.mk (getH (d := d) (r := []) rfl e1) ?_ | refine Cl.mk (hcr) ?_ | refine Cl.mk (hnh) ?_ | refine Rq.mk (dOwn_ints _) ?_ | refine El.mk rfl ?_ | refine Cl.mk (hr3) ?_ | refine Cl.mk (hCo) ?_ | refine Cl.pre (by simp only [shcLL_ints, shcLL_byts, shcLL_strs, Adve.shcs, Fetc.shcs, Gran.shcs, Keyy.shcs, Link.shcs, Mani.shcs, Name.shcs, Read.shcs, Rout.shcs, Segm.shcs, TEnt.shcs, Topo.shcs]; rfl) ?_))
            exact Vs.Fin.mk (WkR.of (.top .nil)) (.refl _)
          | false =>
            rw [h5] at hCo
            rw [if_neg (by simp [f5, h5])] at hst
            (repeat' ((conv => whnf); first | refine stp ?_ | refine Rq.mk ⟨by omega, by rw [List.length_map]; omega⟩ ?_ | refine El.mk (getH (d := d) (r := []) rfl e1) ?_ | refine Cl.mk (hcr) ?_ | refine Cl.mk (hnh) ?_ | refine Rq.mk (dOwn_ints _) ?_ | refine El.mk rfl ?_ | refine Cl.mk (hr3) ?_ | refine Cl.mk (hCo) ?_ | refine Rq.mk (by simp; omega) ?_ | refine Cl.pre (by simp only [shcLL_ints, shcLL_byts, shcLL_strs, Adve.shcs, Fetc.shcs, Gran.shcs, Keyy.shcs, Link.shcs, Mani.shcs, Name.shcs, Read.shcs, Rout.shcs, Segm.shcs, TEnt.shcs, Topo.shcs]; rfl) ?_))
            refine Nx.intro (5 - (d ++ [b]).length) (by simp; omega) _ (WkS.weak _ _) ⟨d ++ [b], c, by rw [hP2, hst]; congr 1; simp; omega, by simp; omega, rfl, ?_⟩
            (repeat' (first | exact rfl | refine consE ?_ ?_ | refine entE ?_ | refine vI ?_ | refine vS ?_ | refine vT ?_ | refine vB ?_))
            all_goals simp
    · have f3 : decide (((d ++ [b]).length : Int) < 6) = false := by simp; omega
      rw [hP2, show 5 - d.length = 0 by omega]
      (repeat' ((conv => whnf); first | refine stp ?_ ))
      exact Vs.Fin.mk (WkR.of (.top .nil)) (.refl _)
end Go.Proofs.YtigkmijoefibiaaGreat
