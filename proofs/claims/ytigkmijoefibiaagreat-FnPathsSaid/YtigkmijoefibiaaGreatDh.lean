/- Contracts of functions of the program: no statement of the seat is proved here. Each under the conditions that stand in it. -/
import Derived.Test.YtigkmijoefibiaaGreatDa
import Derived.Test.YtigkmijoefibiaaGreatM6
set_option linter.all false
namespace Go.Proofs.YtigkmijoefibiaaGreat
open Go.Vs Go.Proofs
/-! Links, faces -/
def isL (a b : Int) (k : Link) : Bool := ((k.a == a) && (k.b == b)) || ((k.a == b) && (k.b == a))
def nbT (n : Topo) (a : Int) (j : Nat) : List Int := ((List.range j).filter fun (k : Nat) => n.links.any (isL a (k : Int))).map fun (k : Nat) => (k : Int)
theorem nbT_zero (n : Topo) (a : Int) : nbT n a 0 = [] := rfl
theorem nbT_yes {n : Topo} {a : Int} {j : Nat} (h : n.links.any (isL a (j : Int)) = true) : nbT n a (j + 1) = nbT n a j ++ [(j : Int)] := by
  simp only [nbT, List.range_succ, List.filter_append, List.map_append, List.filter_cons, List.filter_nil, h]; simp
theorem nbT_no {n : Topo} {a : Int} {j : Nat} (h : n.links.any (isL a (j : Int)) = false) : nbT n a (j + 1) = nbT n a j := by
  simp only [nbT, List.range_succ, List.filter_append, List.map_append, List.filter_cons, List.filter_nil, h]; simp
theorem nbT_len (n : Topo) (a : Int) (j : Nat) : (nbT n a j).length ≤ j := by
  have := List.length_filter_le (fun (k : Nat) => n.links.any (isL a (k : Int))) (List.range j)
  simp at this
  simpa [nbT] using this
def nsz (n : Topo) : Nat := (ma 0 (mi n.nodes 6)).toNat
theorem nsz_b (n : Topo) : nsz n ≤ 6 ∧ ((nsz n : Nat) : Int) = ma 0 (mi n.nodes 6) := by
  unfold nsz ma mi; split <;> split <;> omega
def nbs (n : Topo) (a : Int) : List Int := nbT n a (nsz n)
theorem nbs_len (n : Topo) (a : Int) : (nbs n a).length ≤ 6 := by
  have := nbT_len n a (nsz n)
  have := nsz_b n
  unfold nbs; omega
theorem is210 : FI 210 Tryz.f210 := ⟨⟨Tryz.f210, Tryz.func210, rfl, rfl, rfl, rfl⟩, rfl⟩
set_option maxRecDepth 20000 in
set_option maxHeartbeats 16000000 in
theorem s_LinkIndex (n : Topo) (a b : Int) (hz : n.links.length ≤ 1099511627776) : FO 210 [A (Topo.c false n), I a, I b] [A (Topo.c false n), I a, I b] (I (findI (isL a b) n.links 0)) := by
  refine fok envOk mixed is210 ⟨rfl, rfl, ?_⟩
  refine Lp.mk [.sl 1, .sl 2, .bx 3, .sl 3, .sl 7] (fun m σ => ∃ d r, n.links = d ++ r ∧ m = r.length ∧ d.any (isL a b) = false ∧ σ = [Sa 1 (I a), Sa 2 (I b), Bx 3 ((Topo.c false n)), Pt 3, Sa 7 (I d.length)]) (n.links.length) _ (WkS.weak _ _) ⟨[], n.links, rfl, rfl, rfl, (by first | rfl | (simp only [zlen, zsum, Nat.zero_mul, Int.add_zero, Int.sub_zero, List.nil_append, markG]; rfl))⟩ ?_
  rintro m τ ⟨d, r, hl, rfl, hd, rfl⟩
  have hy : n.links.length = d.length + r.length := by rw [hl]; simp
  refine Nm.mk lenC ?_
  cases r with
  | nil =>
    refine Br.neg (by simp at *; omega) ?_
    (repeat' ((conv => whnf); first | refine stp ?_ | refine Br.mk (fun _ => ?_) (fun _ => ?_) ))
    refine Vs.Fin.mk (WkR.eq ?_) (.refl _)
    rw [hl, List.append_nil, findI_none (by simpa using hd)]
  | cons x r =>
    simp at hy
    refine Br.pos (by simp; omega) ?_
    have hyes : isL a b x = true → findI (isL a b) n.links 0 = (d.length : Int) := fun h => by rw [hl, findI_at hd h]; simp
    (repeat' ((conv => whnf); first | refine stp ?_ | refine Br.mk (fun _ => ?_) (fun _ => ?_) | refine El.mk (getH hl rfl) ?_ | refine Cl.pre (by simp only [shcLL_ints, shcLL_byts, shcLL_strs, Adve.shcs, Fetc.shcs, Gran.shcs, Link.shcs, Mani.shcs, Name.shcs, Read.shcs, Segm.shcs, Topo.shcs]; rfl) ?_))
    all_goals first
      | (refine Nx.intro r.length (by simp) _ (WkS.weak _ _) ⟨d ++ [x], r, by simp [hl], rfl, by simp_all [isL], ?_⟩; rw [len1]; rfl)
      | (refine Vs.Fin.mk (WkR.eq ?_) (.refl _); rw [hyes (by simp_all [isL])])
theorem is226 : FI 226 Tryz.f226 := ⟨⟨Tryz.f226, Tryz.func226, rfl, rfl, rfl, rfl⟩, rfl⟩
set_option maxRecDepth 20000 in
set_option maxHeartbeats 16000000 in
theorem i_LinkIndex_1 (k : Link) (a b : Int) : FO 226 [A (Link.c false k), O (.cp [cI a] 0), O (.cp [cI b] 0)] [A (Link.c false k), O (.cp [cI a] 0), O (.cp [cI b] 0)] (B (isL a b k)) := by
  refine fok envOk mixed is226 ⟨rfl, rfl, ?_⟩
  (repeat' ((conv => whnf); first | refine stp ?_ | refine Br.mk (fun _ => ?_) (fun _ => ?_) ))
  all_goals (refine Vs.Fin.mk (WkR.eq ?_) (.refl _); simp_all [isL])
theorem is206 : FI 206 Tryz.f206 := ⟨⟨Tryz.f206, Tryz.func206, rfl, rfl, rfl, rfl⟩, rfl⟩
set_option maxRecDepth 20000 in
set_option maxHeartbeats 16000000 in
theorem i_LinkIndex (n : Topo) (a b : Int) (hz : n.links.length ≤ 1099511627776) : FO 206 [A (Topo.c false n), I a, I b] [A (Topo.c false n), I a, I b] (I (findI (isL a b) n.links 0)) := by
  refine fok envOk mixed is206 ⟨rfl, rfl, ?_⟩
  (repeat' ((conv => whnf); first | refine stp ?_ | refine Br.mk (fun _ => ?_) (fun _ => ?_) | refine Cl.mk (IndexFunc_Link2 (by omega) (fun x hx => i_LinkIndex_1 x a b)) ?_ | refine Cl.pre (by simp only [shcLL_ints, shcLL_byts, shcLL_strs, Adve.shcs, Fetc.shcs, Gran.shcs, Link.shcs, Mani.shcs, Name.shcs, Read.shcs, Segm.shcs, Topo.shcs]; rfl) ?_))
  exact ⟨WkR.refl _, .refl _⟩
theorem is142 : FI 142 Tryz.f142 := ⟨⟨Tryz.f142, Tryz.func142, rfl, rfl, rfl, rfl⟩, rfl⟩
set_option maxRecDepth 20000 in
set_option maxHeartbeats 16000000 in
theorem s_Neighbors (n : Topo) (a : Int) (hz : n.links.length ≤ 1099511627776) : FO 142 [A (Topo.c false n), I a] [A (Topo.c false n), I a] (Is true (nbs n a)) := by
  refine fok envOk mixed is142 ⟨rfl, rfl, ?_⟩
  have hn := nsz_b n
  refine Lp.mk [.sl 1, .bx 2, .sl 2, .sl 5, .sl 6] (fun m σ => ∃ j, j + m = nsz n ∧ σ = [Sa 1 (I a), Bx 2 ((Topo.c false n)), Pt 2, Sa 5 (O (.sl true .non 1 (ints (nbT n a j)))), Sa 6 (I j)]) (nsz n) _ (WkS.weak _ _) ⟨0, by simp, (by first | rfl | (simp only [zlen, zsum, Nat.zero_mul, Int.add_zero, Int.sub_zero, List.nil_append, markG, nbT_zero]; rfl))⟩ ?_
  rintro m τ ⟨j, hj, rfl⟩
  have hnl := nbT_len n a j
  have h9 := s_LinkIndex n a j hz
  have hge := findI_ge (p := isL a (j : Int)) n.links 0 (by omega)
  have hm : (j : Int) < n.nodes ∧ j < 6 ↔ j < nsz n := by
    have := hn.2
    unfold ma mi at this; split at this <;> split at this <;> omega
  by_cases hlt : j < nsz n
  · have f1 : decide ((j : Int) < n.nodes) = true := by simp; omega
    have f2 : decide ((j : Int) < 6) = true := by simp; omega
    (repeat' ((conv => whnf); first | refine stp ?_ | refine Cl.mk (h9) ?_ | refine Cl.pre (by simp only [shcLL_ints, shcLL_byts, shcLL_strs, Adve.shcs, Fetc.shcs, Gran.shcs, Link.shcs, Mani.shcs, Name.shcs, Read.shcs, Segm.shcs, Topo.shcs]; rfl) ?_))
    refine Br.mk (fun h1 => ?_) (fun h1 => ?_) <;> rw [hge] at h1
    · (repeat' ((conv => whnf); first | refine stp ?_ ))
      refine Nx.intro (m - 1) (by omega) _ (WkS.weak _ _) ⟨j + 1, by omega, ?_⟩
      (repeat' (first | exact rfl | refine consE ?_ ?_ | refine entE ?_ | refine vI ?_ | refine vS ?_ | refine vT ?_ | refine vB ?_))
      rw [nbT_yes h1]; simp
    · (repeat' ((conv => whnf); first | refine stp ?_ ))
      refine Nx.intro (m - 1) (by omega) _ (WkS.weak _ _) ⟨j + 1, by omega, ?_⟩
      (repeat' (first | exact rfl | refine consE ?_ ?_ | refine entE ?_ | refine vI ?_ | refine vS ?_ | refine vT ?_ | refine vB ?_))
      rw [nbT_no h1]
  · obtain rfl : m = 0 := by omega
    have e : nbs n a = nbT n a j := by unfold nbs; congr 1; omega
    rw [e]
    (repeat' ((conv => whnf); first | refine stp ?_ | refine Br.mk (fun _ => ?_) (fun _ => ?_) ))
    all_goals first
      | exact Vs.Fin.mk (WkR.of (.sl1 rfl .nil)) (.refl _)
      | (exfalso; simp at *; omega)
theorem is135 : FI 135 Tryz.f135 := ⟨⟨Tryz.f135, Tryz.func135, rfl, rfl, rfl, rfl⟩, rfl⟩
set_option maxRecDepth 20000 in
set_option maxHeartbeats 16000000 in
theorem i_Neighbors (n : Topo) (a : Int) (hz : n.links.length ≤ 1099511627776) : FO 135 [A (Topo.c false n), I a] [A (Topo.c false n), I a] (Is true (nbs n a)) := by
  refine fok envOk mixed is135 ⟨rfl, rfl, ?_⟩
  have hn := nsz_b n
  (repeat' ((conv => whnf); first | refine stp ?_ ))
  rw [← hn.2]
  refine Lp.mk [.sl 1, .bx 2, .sl 2, .sl 5, .sl 11, .sl 12] (fun m σ => ∃ j, j + m = nsz n ∧ σ = [Sa 1 (I a), Bx 2 ((Topo.c false n)), Pt 2, Sa 5 (O (.sl true .non 1 (ints (nbT n a j)))), Sa 11 (I (nsz n)), Sa 12 (I j)]) (nsz n) _ (WkS.weak _ _) ⟨0, by simp, (by first | rfl | (simp only [zlen, zsum, Nat.zero_mul, Int.add_zero, Int.sub_zero, List.nil_append, markG, nbT_zero]; rfl))⟩ ?_
  rintro m τ ⟨j, hj, rfl⟩
  have hnl := nbT_len n a j
  have h9 := i_LinkIndex n a j hz
  have hge := findI_ge (p := isL a (j : Int)) n.links 0 (by omega)
  refine Br.dec (fun hlt => ?_) (fun hlt => ?_)
  · (repeat' ((conv => whnf); first | refine stp ?_ | refine Cl.mk (h9) ?_ | refine Cl.pre (by simp only [shcLL_ints, shcLL_byts, shcLL_strs, Adve.shcs, Fetc.shcs, Gran.shcs, Link.shcs, Mani.shcs, Name.shcs, Read.shcs, Segm.shcs, Topo.shcs]; rfl) ?_))
    refine Br.mk (fun h1 => ?_) (fun h1 => ?_) <;> rw [hge] at h1
    · (repeat' ((conv => whnf); first | refine stp ?_ ))
      refine Nx.intro (m - 1) (by omega) _ (WkS.weak _ _) ⟨j + 1, by omega, ?_⟩
      (repeat' (first | exact rfl | refine consE ?_ ?_ | refine entE ?_ | refine vI ?_ | refine vS ?_ | refine vT ?_ | refine vB ?_))
      rw [nbT_yes h1]; simp
    · (repeat' ((conv => whnf); first | refine stp ?_ ))
      refine Nx.intro (m - 1) (by omega) _ (WkS.weak _ _) ⟨j + 1, by omega, ?_⟩
      (repeat' (first | exact rfl | refine consE ?_ ?_ | refine entE ?_ | refine vI ?_ | refine vS ?_ | refine vT ?_ | refine vB ?_))
      rw [nbT_no h1]
  · obtain rfl : j = nsz n := by omega
    (repeat' ((conv => whnf); first | refine stp ?_ ))
    exact Vs.Fin.mk (WkR.of (.sl1 rfl .nil)) (.refl _)
def faceT (l : List Int) (b : Int) : Int := findI (fun y => decide (y = b)) l 0 + 1
theorem findI_b {α : Type} {p : α → Bool} : ∀ (l : List α) (i : Int), -1 ≤ i → -1 ≤ findI p l i ∧ findI p l i ≤ i + l.length
  | [], i, h => by simp [findI]; omega
  | x :: l, i, h => by
    have := findI_b (p := p) l (i + 1) (by omega)
    simp only [findI]
    split
    · simp; omega
    · simp; omega
def faceTo (n : Topo) (a b : Int) : Int := faceT (nbs n a) b
theorem is103 : FI 103 Tryz.f103 := ⟨⟨Tryz.f103, Tryz.func103, rfl, rfl, rfl, rfl⟩, rfl⟩
set_option maxRecDepth 20000 in
set_option maxHeartbeats 16000000 in
theorem s_FaceTo (n : Topo) (a b : Int) (hz : n.links.length ≤ 1099511627776) : FO 103 [A (Topo.c false n), I a, I b] [A (Topo.c false n), I a, I b] (I (faceTo n a b)) := by
  refine fok envOk mixed is103 ⟨rfl, rfl, ?_⟩
  have hnl := nbs_len n a
  (repeat' ((conv => whnf); first | refine stp ?_ | refine Cl.mk (s_Neighbors n a hz) ?_ | refine Cl.pre (by simp only [shcLL_ints, shcLL_byts, shcLL_strs, Adve.shcs, Fetc.shcs, Gran.shcs, Link.shcs, Mani.shcs, Name.shcs, Read.shcs, Segm.shcs, Topo.shcs]; rfl) ?_))
  unfold faceTo
  generalize nbs n a = l at hnl ⊢
  refine Lp.mk [.sl 2, .sl 7, .sl 8] (fun m σ => ∃ d r, l = d ++ r ∧ m = r.length ∧ (d.any fun y => decide (y = b)) = false ∧ σ = [Sa 2 (I b), Sa 7 (Is true l), Sa 8 (I d.length)]) (l.length) _ (WkS.weak _ _) ⟨[], l, rfl, rfl, rfl, (by first | rfl | (simp only [zlen, zsum, Nat.zero_mul, Int.add_zero, Int.sub_zero, List.nil_append, markG]; rfl))⟩ ?_
  rintro m τ ⟨d, r, rfl, rfl, hd, rfl⟩
  refine Nm.mk lenC ?_
  cases r with
  | nil =>
    refine Br.neg (by simp) ?_
    (repeat' ((conv => whnf); first | refine stp ?_ ))
    refine Vs.Fin.mk (WkR.eq ?_) (.refl _)
    rw [faceT, findI_none (by simpa using hd)]; rfl
  | cons x r =>
    simp at hnl
    refine Br.pos (by simp; omega) ?_
    (repeat' ((conv => whnf); first | refine stp ?_ | refine El.mk (getA rfl) ?_ | refine Cl.pre (by simp only [shcLL_ints, shcLL_byts, shcLL_strs, Adve.shcs, Fetc.shcs, Gran.shcs, Link.shcs, Mani.shcs, Name.shcs, Read.shcs, Segm.shcs, Topo.shcs]; rfl) ?_))
    refine Br.mk (fun h => ?_) (fun h => ?_)
    · (repeat' ((conv => whnf); first | refine stp ?_ ))
      refine Vs.Fin.mk (WkR.eq ?_) (.refl _)
      rw [faceT, findI_at hd (by simpa using h)]; simp
    · (repeat' ((conv => whnf); first | refine stp ?_ ))
      refine Nx.intro r.length (by simp) _ (WkS.weak _ _) ⟨d ++ [x], r, by simp, rfl, by simp_all, ?_⟩
      rw [len1]; rfl
theorem is95 : FI 95 Tryz.f95 := ⟨⟨Tryz.f95, Tryz.func95, rfl, rfl, rfl, rfl⟩, rfl⟩
set_option maxRecDepth 20000 in
set_option maxHeartbeats 16000000 in
theorem i_FaceTo (n : Topo) (a b : Int) (hz : n.links.length ≤ 1099511627776) : FO 95 [A (Topo.c false n), I a, I b] [A (Topo.c false n), I a, I b] (I (faceTo n a b)) := by
  refine fok envOk mixed is95 ⟨rfl, rfl, ?_⟩
  have hnl := nbs_len n a
  have hb := findI_b (p := fun y => decide (y = b)) (nbs n a) 0 (by omega)
  (repeat' ((conv => whnf); first | refine stp ?_ | refine Br.mk (fun _ => ?_) (fun _ => ?_) | refine Cl.mk (i_Neighbors n a hz) ?_ | refine Cl.mk (Index_int (nbs n a) b (by omega)) ?_ | refine Cl.pre (by simp only [shcLL_ints, shcLL_byts, shcLL_strs, Adve.shcs, Fetc.shcs, Gran.shcs, Link.shcs, Mani.shcs, Name.shcs, Read.shcs, Segm.shcs, Topo.shcs]; rfl) ?_))
  exact ⟨WkR.refl _, .refl _⟩
theorem getGi {o : List Int} {i : Int} (h : 0 ≤ i) (h2 : i < o.length) : (ints o)[i.toNat]? = some [cI (gI o i.toNat)] := by
  obtain ⟨c, rfl⟩ : ∃ c : Nat, i = c := ⟨i.toNat, by omega⟩
  exact getG (by omega)
def farN (n : Topo) (a f : Int) : Int := if inR f 1 (nbs n a).length then gI (nbs n a) (f - 1).toNat else -1
def farF (n : Topo) (a f : Int) : Int := if inR f 1 (nbs n a).length then faceTo n (gI (nbs n a) (f - 1).toNat) a else 0
abbrev II (a b : Int) : Arg := (.tup [(false, 1), (false, 1)], [cI a, cI b])
theorem is74 : FI 74 Tryz.f74 := ⟨⟨Tryz.f74, Tryz.func74, rfl, rfl, rfl, rfl⟩, rfl⟩
set_option maxRecDepth 20000 in
set_option maxHeartbeats 16000000 in
theorem s_RemoteEnd (n : Topo) (a f : Int) (hz : n.links.length ≤ 1099511627776) : FO 74 [A (Topo.c false n), I a, I f] [A (Topo.c false n), I a, I f] (II (farN n a f) (farF n a f)) := by
  refine fok envOk mixed is74 ⟨rfl, rfl, ?_⟩
  have hnl := nbs_len n a
  cases hr : inR f 1 (nbs n a).length with
  | false =>
    have f1 : (!inR f 1 (nbs n a).length) = true := by simp [hr]
    rw [show farN n a f = -1 by simp [farN, hr], show farF n a f = 0 by simp [farF, hr]]
    (repeat' ((conv => whnf); first | refine stp ?_ | refine Cl.mk (s_Neighbors n a hz) ?_ | refine Cl.mk (s_l1In _ _ _) ?_ | refine Cl.pre (by simp only [shcLL_ints, shcLL_byts, shcLL_strs, Adve.shcs, Fetc.shcs, Gran.shcs, Link.shcs, Mani.shcs, Name.shcs, Read.shcs, Segm.shcs, Topo.shcs]; rfl) ?_))
    exact Vs.Fin.mk (WkR.refl _) (.refl _)
  | true =>
    have f1 : (!inR f 1 (nbs n a).length) = false := by simp [hr]
    have hf : 1 ≤ f ∧ f ≤ (nbs n a).length := by simpa [inR_t] using hr
    rw [show farN n a f = gI (nbs n a) (f - 1).toNat by simp [farN, hr], show farF n a f = faceTo n (gI (nbs n a) (f - 1).toNat) a by simp [farF, hr]]
    (repeat' ((conv => whnf); first | refine stp ?_ | refine Cl.mk (s_Neighbors n a hz) ?_ | refine Cl.mk (s_l1In _ _ _) ?_ | refine El.mk (getGi (by omega) (by omega)) ?_ | refine Cl.mk (s_FaceTo n (gI (nbs n a) (f - 1).toNat) a hz) ?_ | refine Cl.pre (by simp only [shcLL_ints, shcLL_byts, shcLL_strs, Adve.shcs, Fetc.shcs, Gran.shcs, Link.shcs, Mani.shcs, Name.shcs, Read.shcs, Segm.shcs, Topo.shcs]; rfl) ?_))
    exact Vs.Fin.mk (WkR.refl _) (.refl _)
theorem is80 : FI 80 Tryz.f80 := ⟨⟨Tryz.f80, Tryz.func80, rfl, rfl, rfl, rfl⟩, rfl⟩
set_option maxRecDepth 20000 in
set_option maxHeartbeats 16000000 in
theorem i_RemoteEnd (n : Topo) (a f : Int) (hz : n.links.length ≤ 1099511627776) : FO 80 [A (Topo.c false n), I a, I f] [A (Topo.c false n), I a, I f] (II (farN n a f) (farF n a f)) := by
  refine fok envOk mixed is80 ⟨rfl, rfl, ?_⟩
  have hnl := nbs_len n a
  cases hr : inR f 1 (nbs n a).length with
  | false =>
    have f1 : (!inR f 1 (nbs n a).length) = true := by simp [hr]
    rw [show farN n a f = -1 by simp [farN, hr], show farF n a f = 0 by simp [farF, hr]]
    (repeat' ((conv => whnf); first | refine stp ?_ | refine Cl.mk (i_Neighbors n a hz) ?_ | refine Cl.mk (i_InRange _ _ _) ?_ | refine Cl.pre (by simp only [shcLL_ints, shcLL_byts, shcLL_strs, Adve.shcs, Fetc.shcs, Gran.shcs, Link.shcs, Mani.shcs, Name.shcs, Read.shcs, Segm.shcs, Topo.shcs]; rfl) ?_))
    exact Vs.Fin.mk (WkR.refl _) (.refl _)
  | true =>
    have f1 : (!inR f 1 (nbs n a).length) = false := by simp [hr]
    have hf : 1 ≤ f ∧ f ≤ (nbs n a).length := by simpa [inR_t] using hr
    rw [show farN n a f = gI (nbs n a) (f - 1).toNat by simp [farN, hr], show farF n a f = faceTo n (gI (nbs n a) (f - 1).toNat) a by simp [farF, hr]]
    (repeat' ((conv => whnf); first | refine stp ?_ | refine Cl.mk (i_Neighbors n a hz) ?_ | refine Cl.mk (i_InRange _ _ _) ?_ | refine El.mk (getGi (by omega) (by omega)) ?_ | refine Cl.mk (i_FaceTo n (gI (nbs n a) (f - 1).toNat) a hz) ?_ | refine Cl.pre (by simp only [shcLL_ints, shcLL_byts, shcLL_strs, Adve.shcs, Fetc.shcs, Gran.shcs, Link.shcs, Mani.shcs, Name.shcs, Read.shcs, Segm.shcs, Topo.shcs]; rfl) ?_))
    exact Vs.Fin.mk (WkR.refl _) (.refl _)
end Go.Proofs.YtigkmijoefibiaaGreat
