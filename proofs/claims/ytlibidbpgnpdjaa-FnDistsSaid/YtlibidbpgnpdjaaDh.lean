/- Contracts of functions of the program: no statement of the seat is proved here. Each under the conditions that stand in it. -/
import Derived.Test.YtlibidbpgnpdjaaM6
set_option linter.all false
namespace Go.Proofs.Ytlibidbpgnpdjaa
open Go.Vs Go.Proofs
/-! Links, faces -/
def isL (a b : Int) (k : Link) : Bool := ((k.a == a) && (k.b == b)) || ((k.a == b) && (k.b == a))
def nbT (n : Topo) (a : Int) (j : Nat) : List Int := ((List.range j).filter fun (k : Nat) => n.links.any (isL a (k : Int))).map fun (k : Nat) => (k : Int)
theorem nbT_zero (n : Topo) (a : Int) : nbT n a 0 = [] := rfl
theorem nbT_yes {n : Topo} {a : Int} {j : Nat} (h : n.links.any (isL a (j : Int)) = true) : nbT n a (j + 1) = nbT n a j ++ [(j : Int)] := by
  simp only [nbT, List.range_succ, List.filter_append, List.map_append, List.filter_cons, List.filter_nil, h]; simp
theorem nbT_no {n : Topo} {a : Int} {j : Nat} (h : n.links.any (isL a (j : Int)) = false) : nbT n a (j + 1) = nbT n a j := by
  simp only [nbT, List.range_succ, List.filter_append, List.map_append, List.filter_cons, List.filter_nil, h]; simp
theorem nbT_len (n : Topo) (a : Int) (j : Nat) : (nbT n a j).length ≤ j := by
  have := List.length_filter_le (fun (k : Nat) => n.links.any (isL a (k : Int))) (List.range j)
  simp at this
  simpa [nbT] using this
def nsz (n : Topo) : Nat := (ma 0 (mi n.nodes 6)).toNat
theorem nsz_b (n : Topo) : nsz n ≤ 6 ∧ ((nsz n : Nat) : Int) = ma 0 (mi n.nodes 6) := by
  unfold nsz ma mi; split <;> split <;> omega
def nbs (n : Topo) (a : Int) : List Int := nbT n a (nsz n)
theorem nbs_len (n : Topo) (a : Int) : (nbs n a).length ≤ 6 := by
  have := nbT_len n a (nsz n)
  have := nsz_b n
  unfold nbs; omega
theorem is101 : FI 101 Try.f101 := ⟨⟨Try.f101, Try.func101, rfl, rfl, rfl, rfl⟩, rfl⟩
set_option maxRecDepth 20000 in
set_option maxHeartbeats 16000000 in
theorem s_LinkIndex (n : Topo) (a b : Int) (hz : n.links.length ≤ 1099511627776) : FO 101 [A (Topo.c false n), I a, I b] [A (Topo.c false n), I a, I b] (I (findI (isL a b) n.links 0)) := by
  refine fok envOk mixed is101 ⟨rfl, rfl, ?_⟩
  refine Lp.mk [.sl 1, .sl 2, .bx 3, .sl 3, .sl 7] (fun m σ => ∃ d r, n.links = d ++ r ∧ m = r.length ∧ d.any (isL a b) = false ∧ σ = [Sa 1 (I a), Sa 2 (I b), Bx 3 ((Topo.c false n)), Pt 3, Sa 7 (I d.length)]) (n.links.length) _ (WkS.weak _ _) ⟨[], n.links, rfl, rfl, rfl, (by first | rfl | (simp only [zlen, zsum, Nat.zero_mul, Int.add_zero, Int.sub_zero, List.nil_append, markG]; rfl))⟩ ?_
  rintro m τ ⟨d, r, hl, rfl, hd, rfl⟩
  have hy : n.links.length = d.length + r.length := by rw [hl]; simp
  refine Nm.mk lenC ?_
  cases r with
  | nil =>
    refine Br.neg (by simp at *; omega) ?_
    (repeat' ((conv => whnf); first | refine Br.tt ?_ | refine Br.ff ?_ | refine Br.pos (by assumption) ?_ | refine Br.neg (by assumption) ?_ | refine Br.bself ?_ | refine Br.dself ?_ | refine Br.iself ?_ | refine Br.mk (fun _ => ?_) (fun _ => ?_) | refine Nm.mk lenC ?_ | refine Nm.mk (wrapI (by (first | omega | (simp [inR_t, inR_f] at *; omega))) (by (first | omega | (simp [inR_t, inR_f] at *; omega)))) ?_ | refine Nm.mk (wrapQ (by (first | omega | (simp [inR_t, inR_f] at *; omega))) (by (first | omega | (simp [inR_t, inR_f] at *; omega))) (by (first | omega | (simp [inR_t, inR_f] at *; omega)))) ?_ | refine Nm.mk (tmodN (by (first | omega | (simp [inR_t, inR_f] at *; omega)))) ?_ | refine Nm.mk (szS _) ?_ | refine Nm.mk (mi_eq _ _) ?_ | refine Nm.mk (ma_eq _ _) ?_ | refine Rq.mk (by first | (simp [dOwnL, dOwn] <;> fail) | (first | omega | (simp [inR_t, inR_f] at *; omega))) ?_ | refine And.intro (orderFast (by kernel_rfl)) ?_ | refine And.intro (by kernel_rfl) ?_ ))
    refine Vs.Fin.mk (WkR.eq ?_) (.refl _)
    rw [hl, List.append_nil, findI_none (by simpa using hd)]
  | cons x r =>
    simp at hy
    refine Br.pos (by simp; omega) ?_
    have hyes : isL a b x = true → findI (isL a b) n.links 0 = (d.length : Int) := fun h => by rw [hl, findI_at hd h]; simp
    (repeat' ((conv => whnf); first | refine Br.tt ?_ | refine Br.ff ?_ | refine Br.pos (by assumption) ?_ | refine Br.neg (by assumption) ?_ | refine Br.bself ?_ | refine Br.dself ?_ | refine Br.iself ?_ | refine Br.mk (fun _ => ?_) (fun _ => ?_) | refine Nm.mk lenC ?_ | refine Nm.mk (wrapI (by (first | omega | (simp [inR_t, inR_f] at *; omega))) (by (first | omega | (simp [inR_t, inR_f] at *; omega)))) ?_ | refine Nm.mk (wrapQ (by (first | omega | (simp [inR_t, inR_f] at *; omega))) (by (first | omega | (simp [inR_t, inR_f] at *; omega))) (by (first | omega | (simp [inR_t, inR_f] at *; omega)))) ?_ | refine Nm.mk (tmodN (by (first | omega | (simp [inR_t, inR_f] at *; omega)))) ?_ | refine Nm.mk (szS _) ?_ | refine Nm.mk (mi_eq _ _) ?_ | refine Nm.mk (ma_eq _ _) ?_ | refine Rq.mk (by first | (simp [dOwnL, dOwn] <;> fail) | (first | omega | (simp [inR_t, inR_f] at *; omega))) ?_ | refine And.intro (orderFast (by kernel_rfl)) ?_ | refine And.intro (by kernel_rfl) ?_ | refine El.mk (getH hl rfl) ?_ | refine Cl.pre (by simp only [shcLL_ints, shcLL_byts, shcLL_strs, Adve.shcs, Fetc.shcs, Gran.shcs, Link.shcs, Mani.shcs, Name.shcs, Read.shcs, Segm.shcs, Topo.shcs]; rfl) ?_))
    all_goals first
      | (refine Nx.intro r.length (by simp) _ (WkS.weak _ _) ⟨d ++ [x], r, by simp [hl], rfl, by simp_all [isL], ?_⟩; rw [len1]; rfl)
      | (refine Vs.Fin.mk (WkR.eq ?_) (.refl _); rw [hyes (by simp_all [isL])])
theorem is91 : FI 91 Try.f91 := ⟨⟨Try.f91, Try.func91, rfl, rfl, rfl, rfl⟩, rfl⟩
set_option maxRecDepth 20000 in
set_option maxHeartbeats 16000000 in
theorem s_Neighbors (n : Topo) (a : Int) (hz : n.links.length ≤ 1099511627776) : FO 91 [A (Topo.c false n), I a] [A (Topo.c false n), I a] (Is true (nbs n a)) := by
  refine fok envOk mixed is91 ⟨rfl, rfl, ?_⟩
  have hn := nsz_b n
  refine Lp.mk [.sl 1, .bx 2, .sl 2, .sl 5, .sl 6] (fun m σ => ∃ j, j + m = nsz n ∧ σ = [Sa 1 (I a), Bx 2 ((Topo.c false n)), Pt 2, Sa 5 (O (.sl true .non 1 (ints (nbT n a j)))), Sa 6 (I j)]) (nsz n) _ (WkS.weak _ _) ⟨0, by simp, (by first | rfl | (simp only [zlen, zsum, Nat.zero_mul, Int.add_zero, Int.sub_zero, List.nil_append, markG, nbT_zero]; rfl))⟩ ?_
  rintro m τ ⟨j, hj, rfl⟩
  have hnl := nbT_len n a j
  have h9 := s_LinkIndex n a j hz
  have hge := findI_ge (p := isL a (j : Int)) n.links 0 (by omega)
  have hm : (j : Int) < n.nodes ∧ j < 6 ↔ j < nsz n := by
    have := hn.2
    unfold ma mi at this; split at this <;> split at this <;> omega
  by_cases hlt : j < nsz n
  · have f1 : decide ((j : Int) < n.nodes) = true := by simp; omega
    have f2 : decide ((j : Int) < 6) = true := by simp; omega
    (repeat' ((conv => whnf); first | refine Br.tt ?_ | refine Br.ff ?_ | refine Br.pos (by assumption) ?_ | refine Br.neg (by assumption) ?_ | refine Br.bself ?_ | refine Br.dself ?_ | refine Br.iself ?_ | refine Nm.mk lenC ?_ | refine Nm.mk (wrapI (by (first | omega | (simp [inR_t, inR_f] at *; omega))) (by (first | omega | (simp [inR_t, inR_f] at *; omega)))) ?_ | refine Nm.mk (wrapQ (by (first | omega | (simp [inR_t, inR_f] at *; omega))) (by (first | omega | (simp [inR_t, inR_f] at *; omega))) (by (first | omega | (simp [inR_t, inR_f] at *; omega)))) ?_ | refine Nm.mk (tmodN (by (first | omega | (simp [inR_t, inR_f] at *; omega)))) ?_ | refine Nm.mk (szS _) ?_ | refine Nm.mk (mi_eq _ _) ?_ | refine Nm.mk (ma_eq _ _) ?_ | refine Rq.mk (by first | (simp [dOwnL, dOwn] <;> fail) | (first | omega | (simp [inR_t, inR_f] at *; omega))) ?_ | refine And.intro (orderFast (by kernel_rfl)) ?_ | refine And.intro (by kernel_rfl) ?_ | refine Cl.mk (h9) ?_ | refine Cl.pre (by simp only [shcLL_ints, shcLL_byts, shcLL_strs, Adve.shcs, Fetc.shcs, Gran.shcs, Link.shcs, Mani.shcs, Name.shcs, Read.shcs, Segm.shcs, Topo.shcs]; rfl) ?_))
    refine Br.mk (fun h1 => ?_) (fun h1 => ?_) <;> rw [hge] at h1
    · (repeat' ((conv => whnf); first | refine Br.tt ?_ | refine Br.ff ?_ | refine Br.pos (by assumption) ?_ | refine Br.neg (by assumption) ?_ | refine Br.bself ?_ | refine Br.dself ?_ | refine Br.iself ?_ | refine Nm.mk lenC ?_ | refine Nm.mk (wrapI (by (first | omega | (simp [inR_t, inR_f] at *; omega))) (by (first | omega | (simp [inR_t, inR_f] at *; omega)))) ?_ | refine Nm.mk (wrapQ (by (first | omega | (simp [inR_t, inR_f] at *; omega))) (by (first | omega | (simp [inR_t, inR_f] at *; omega))) (by (first | omega | (simp [inR_t, inR_f] at *; omega)))) ?_ | refine Nm.mk (tmodN (by (first | omega | (simp [inR_t, inR_f] at *; omega)))) ?_ | refine Nm.mk (szS _) ?_ | refine Nm.mk (mi_eq _ _) ?_ | refine Nm.mk (ma_eq _ _) ?_ | refine Rq.mk (by first | (simp [dOwnL, dOwn] <;> fail) | (first | omega | (simp [inR_t, inR_f] at *; omega))) ?_ | refine And.intro (orderFast (by kernel_rfl)) ?_ | refine And.intro (by kernel_rfl) ?_ ))
      refine Nx.intro (m - 1) (by omega) _ (WkS.weak _ _) ⟨j + 1, by omega, ?_⟩
      (repeat' (first | exact rfl | refine consE ?_ ?_ | refine entE ?_ | refine vI ?_ | refine vS ?_ | refine vT ?_ | refine vB ?_))
      rw [nbT_yes h1]; simp
    · (repeat' ((conv => whnf); first | refine Br.tt ?_ | refine Br.ff ?_ | refine Br.pos (by assumption) ?_ | refine Br.neg (by assumption) ?_ | refine Br.bself ?_ | refine Br.dself ?_ | refine Br.iself ?_ | refine Nm.mk lenC ?_ | refine Nm.mk (wrapI (by (first | omega | (simp [inR_t, inR_f] at *; omega))) (by (first | omega | (simp [inR_t, inR_f] at *; omega)))) ?_ | refine Nm.mk (wrapQ (by (first | omega | (simp [inR_t, inR_f] at *; omega))) (by (first | omega | (simp [inR_t, inR_f] at *; omega))) (by (first | omega | (simp [inR_t, inR_f] at *; omega)))) ?_ | refine Nm.mk (tmodN (by (first | omega | (simp [inR_t, inR_f] at *; omega)))) ?_ | refine Nm.mk (szS _) ?_ | refine Nm.mk (mi_eq _ _) ?_ | refine Nm.mk (ma_eq _ _) ?_ | refine Rq.mk (by first | (simp [dOwnL, dOwn] <;> fail) | (first | omega | (simp [inR_t, inR_f] at *; omega))) ?_ | refine And.intro (orderFast (by kernel_rfl)) ?_ | refine And.intro (by kernel_rfl) ?_ ))
      refine Nx.intro (m - 1) (by omega) _ (WkS.weak _ _) ⟨j + 1, by omega, ?_⟩
      (repeat' (first | exact rfl | refine consE ?_ ?_ | refine entE ?_ | refine vI ?_ | refine vS ?_ | refine vT ?_ | refine vB ?_))
      rw [nbT_no h1]
  · obtain rfl : m = 0 := by omega
    have e : nbs n a = nbT n a j := by unfold nbs; congr 1; omega
    rw [e]
    (repeat' ((conv => whnf); first | refine Br.tt ?_ | refine Br.ff ?_ | refine Br.pos (by assumption) ?_ | refine Br.neg (by assumption) ?_ | refine Br.bself ?_ | refine Br.dself ?_ | refine Br.iself ?_ | refine Br.mk (fun _ => ?_) (fun _ => ?_) | refine Nm.mk lenC ?_ | refine Nm.mk (wrapI (by (first | omega | (simp [inR_t, inR_f] at *; omega))) (by (first | omega | (simp [inR_t, inR_f] at *; omega)))) ?_ | refine Nm.mk (wrapQ (by (first | omega | (simp [inR_t, inR_f] at *; omega))) (by (first | omega | (simp [inR_t, inR_f] at *; omega))) (by (first | omega | (simp [inR_t, inR_f] at *; omega)))) ?_ | refine Nm.mk (tmodN (by (first | omega | (simp [inR_t, inR_f] at *; omega)))) ?_ | refine Nm.mk (szS _) ?_ | refine Nm.mk (mi_eq _ _) ?_ | refine Nm.mk (ma_eq _ _) ?_ | refine Rq.mk (by first | (simp [dOwnL, dOwn] <;> fail) | (first | omega | (simp [inR_t, inR_f] at *; omega))) ?_ | refine And.intro (orderFast (by kernel_rfl)) ?_ | refine And.intro (by kernel_rfl) ?_ ))
    all_goals first
      | exact Vs.Fin.mk (WkR.of (.sl1 rfl .nil)) (.refl _)
      | (exfalso; simp at *; omega)
def faceT (l : List Int) (b : Int) : Int := findI (fun y => decide (y = b)) l 0 + 1
theorem findI_b {α : Type} {p : α → Bool} : ∀ (l : List α) (i : Int), -1 ≤ i → -1 ≤ findI p l i ∧ findI p l i ≤ i + l.length
  | [], i, h => by simp [findI]; omega
  | x :: l, i, h => by
    have := findI_b (p := p) l (i + 1) (by omega)
    simp only [findI]
    split
    · simp; omega
    · simp; omega
def faceTo (n : Topo) (a b : Int) : Int := faceT (nbs n a) b
theorem getGi {o : List Int} {i : Int} (h : 0 ≤ i) (h2 : i < o.length) : (ints o)[i.toNat]? = some [cI (gI o i.toNat)] := by
  obtain ⟨c, rfl⟩ : ∃ c : Nat, i = c := ⟨i.toNat, by omega⟩
  exact getG (by omega)
def farN (n : Topo) (a f : Int) : Int := if inR f 1 (nbs n a).length then gI (nbs n a) (f - 1).toNat else -1
def farF (n : Topo) (a f : Int) : Int := if inR f 1 (nbs n a).length then faceTo n (gI (nbs n a) (f - 1).toNat) a else 0
abbrev II (a b : Int) : Arg := (.tup [(false, 1), (false, 1)], [cI a, cI b])
noncomputable def leads (n : Topo) (l : List Adve) (a f t : Int) : Bool := decide (dAt l (farN n a f) t ≥ 0) && decide (dAt l (farN n a f) t < dAt l a t)
end Go.Proofs.Ytlibidbpgnpdjaa
