/- Contracts of functions of the program: no statement of the seat is proved here. Each under the conditions that stand in it. -/
import Derived.Test.YtlibidbpgnpdjaaDb
import Derived.Test.YtlibidbpgnpdjaaDc
import Derived.Test.YtlibidbpgnpdjaaSb
import Derived.Test.YtlibidbpgnpdjaaFl
import Derived.Test.YtlibidbpgnpdjaaFg
set_option linter.all false
namespace Go.Proofs.Ytlibidbpgnpdjaa
open Go.Vs Go.Proofs
theorem distL_len (l : List Adve) (a : Int) : (distL l a).length = 6 := (distL_is l a).len
theorem dAtE : ∃ f : List Adve → Int → Int → Int, ∀ l a b, f l a b = if inR b 0 5 then gI (distL l a) b.toNat else -1 := ⟨_, fun _ _ _ => rfl⟩
noncomputable def dAt : List Adve → Int → Int → Int := Classical.choose dAtE
theorem dAt_def (l : List Adve) (a b : Int) : dAt l a b = if inR b 0 5 then gI (distL l a) b.toNat else -1 := Classical.choose_spec dAtE l a b
theorem dAt_b (l : List Adve) (a b : Int) : -1 ≤ dAt l a b ∧ dAt l a b ≤ 6 := by
  rw [dAt_def]
  split
  · rename_i h
    simp [inR_t] at h
    exact (distL_is l a).rng _ (by omega)
  · omega
theorem is17 : FI 17 Try.f17 := ⟨⟨Try.f17, Try.func17, rfl, rfl, rfl, rfl⟩, rfl⟩
set_option maxRecDepth 20000 in
set_option maxHeartbeats 16000000 in
theorem s_Distance (l : List Adve) (a b : Int) (hz : l.length + sumN Adve.size l ≤ 1099511627776) : FO 17 [Al l, I a, I b] [Al l, I a, I b] (I (dAt l a b)) := by
  refine fok envOk mixed is17 ⟨rfl, rfl, ?_⟩
  cases h : inR b 0 5 with
  | false =>
    have f1 : (!inR b 0 5) = true := by simp [h]
    rw [show dAt l a b = -1 by simp [dAt_def, h]]
    (repeat' ((conv => whnf); first | refine Br.tt ?_ | refine Br.ff ?_ | refine Br.pos (by assumption) ?_ | refine Br.neg (by assumption) ?_ | refine Br.bself ?_ | refine Br.dself ?_ | refine Br.iself ?_ | refine Nm.mk lenC ?_ | refine Nm.mk (wrapI (by (first | omega | (simp [inR_t, inR_f] at *; omega))) (by (first | omega | (simp [inR_t, inR_f] at *; omega)))) ?_ | refine Nm.mk (wrapQ (by (first | omega | (simp [inR_t, inR_f] at *; omega))) (by (first | omega | (simp [inR_t, inR_f] at *; omega))) (by (first | omega | (simp [inR_t, inR_f] at *; omega)))) ?_ | refine Nm.mk (tmodN (by (first | omega | (simp [inR_t, inR_f] at *; omega)))) ?_ | refine Nm.mk (szS _) ?_ | refine Nm.mk (mi_eq _ _) ?_ | refine Nm.mk (ma_eq _ _) ?_ | refine Rq.mk (by first | (simp [dOwnL, dOwn] <;> fail) | (first | omega | (simp [inR_t, inR_f] at *; omega))) ?_ | refine And.intro (orderFast (by kernel_rfl)) ?_ | refine And.intro (by kernel_rfl) ?_ | refine Cl.mk (s_l1In _ _ _) ?_ | refine Cl.pre (by simp only [shcLL_ints, shcLL_byts, shcLL_strs, Adve.shcs, Fetc.shcs, Gran.shcs, Link.shcs, Mani.shcs, Name.shcs, Read.shcs, Segm.shcs, Topo.shcs]; rfl) ?_))
    exact Vs.Fin.mk (WkR.refl _) (.refl _)
  | true =>
    have f1 : (!inR b 0 5) = false := by simp [h]
    have hb : 0 ≤ b ∧ b ≤ 5 := by simpa [inR_t] using h
    have hlen := distL_len l a
    have hc := s_Distances l a hz
    obtain ⟨c, rfl⟩ : ∃ c : Nat, b = c := ⟨b.toNat, by omega⟩
    rw [show dAt l a c = gI (distL l a) c by simp [dAt_def, h]]
    generalize distL l a = D at hc hlen ⊢
    (repeat' ((conv => whnf); first | refine Br.tt ?_ | refine Br.ff ?_ | refine Br.pos (by assumption) ?_ | refine Br.neg (by assumption) ?_ | refine Br.bself ?_ | refine Br.dself ?_ | refine Br.iself ?_ | refine Nm.mk lenC ?_ | refine Nm.mk (wrapI (by (first | omega | (simp [inR_t, inR_f] at *; omega))) (by (first | omega | (simp [inR_t, inR_f] at *; omega)))) ?_ | refine Nm.mk (wrapQ (by (first | omega | (simp [inR_t, inR_f] at *; omega))) (by (first | omega | (simp [inR_t, inR_f] at *; omega))) (by (first | omega | (simp [inR_t, inR_f] at *; omega)))) ?_ | refine Nm.mk (tmodN (by (first | omega | (simp [inR_t, inR_f] at *; omega)))) ?_ | refine Nm.mk (szS _) ?_ | refine Nm.mk (mi_eq _ _) ?_ | refine Nm.mk (ma_eq _ _) ?_ | refine Rq.mk (by first | (simp [dOwnL, dOwn] <;> fail) | (first | omega | (simp [inR_t, inR_f] at *; omega))) ?_ | refine And.intro (orderFast (by kernel_rfl)) ?_ | refine And.intro (by kernel_rfl) ?_ | refine Cl.mk (s_l1In _ _ _) ?_ | refine Cl.mk (hc) ?_ | refine El.mk (getG (by omega)) ?_ | refine Cl.pre (by simp only [shcLL_ints, shcLL_byts, shcLL_strs, Adve.shcs, Fetc.shcs, Gran.shcs, Link.shcs, Mani.shcs, Name.shcs, Read.shcs, Segm.shcs, Topo.shcs]; rfl) ?_))
    exact Vs.Fin.mk (WkR.refl _) (.refl _)
theorem is15 : FI 15 Try.f15 := ⟨⟨Try.f15, Try.func15, rfl, rfl, rfl, rfl⟩, rfl⟩
set_option maxRecDepth 20000 in
set_option maxHeartbeats 16000000 in
theorem i_Distance (l : List Adve) (a b : Int) (hz : l.length + sumN Adve.size l ≤ 1099511627776) : FO 15 [Al l, I a, I b] [Al l, I a, I b] (I (dAt l a b)) := by
  refine fok envOk mixed is15 ⟨rfl, rfl, ?_⟩
  cases h : inR b 0 5 with
  | false =>
    have f1 : (!inR b 0 5) = true := by simp [h]
    rw [show dAt l a b = -1 by simp [dAt_def, h]]
    (repeat' ((conv => whnf); first | refine Br.tt ?_ | refine Br.ff ?_ | refine Br.pos (by assumption) ?_ | refine Br.neg (by assumption) ?_ | refine Br.bself ?_ | refine Br.dself ?_ | refine Br.iself ?_ | refine Nm.mk lenC ?_ | refine Nm.mk (wrapI (by (first | omega | (simp [inR_t, inR_f] at *; omega))) (by (first | omega | (simp [inR_t, inR_f] at *; omega)))) ?_ | refine Nm.mk (wrapQ (by (first | omega | (simp [inR_t, inR_f] at *; omega))) (by (first | omega | (simp [inR_t, inR_f] at *; omega))) (by (first | omega | (simp [inR_t, inR_f] at *; omega)))) ?_ | refine Nm.mk (tmodN (by (first | omega | (simp [inR_t, inR_f] at *; omega)))) ?_ | refine Nm.mk (szS _) ?_ | refine Nm.mk (mi_eq _ _) ?_ | refine Nm.mk (ma_eq _ _) ?_ | refine Rq.mk (by first | (simp [dOwnL, dOwn] <;> fail) | (first | omega | (simp [inR_t, inR_f] at *; omega))) ?_ | refine And.intro (orderFast (by kernel_rfl)) ?_ | refine And.intro (by kernel_rfl) ?_ | refine Cl.mk (i_InRange _ _ _) ?_ | refine Cl.pre (by simp only [shcLL_ints, shcLL_byts, shcLL_strs, Adve.shcs, Fetc.shcs, Gran.shcs, Link.shcs, Mani.shcs, Name.shcs, Read.shcs, Segm.shcs, Topo.shcs]; rfl) ?_))
    exact Vs.Fin.mk (WkR.refl _) (.refl _)
  | true =>
    have f1 : (!inR b 0 5) = false := by simp [h]
    have hb : 0 ≤ b ∧ b ≤ 5 := by simpa [inR_t] using h
    have hlen := distL_len l a
    have hc := i_Distances l a hz
    obtain ⟨c, rfl⟩ : ∃ c : Nat, b = c := ⟨b.toNat, by omega⟩
    rw [show dAt l a c = gI (distL l a) c by simp [dAt_def, h]]
    generalize distL l a = D at hc hlen ⊢
    (repeat' ((conv => whnf); first | refine Br.tt ?_ | refine Br.ff ?_ | refine Br.pos (by assumption) ?_ | refine Br.neg (by assumption) ?_ | refine Br.bself ?_ | refine Br.dself ?_ | refine Br.iself ?_ | refine Nm.mk lenC ?_ | refine Nm.mk (wrapI (by (first | omega | (simp [inR_t, inR_f] at *; omega))) (by (first | omega | (simp [inR_t, inR_f] at *; omega)))) ?_ | refine Nm.mk (wrapQ (by (first | omega | (simp [inR_t, inR_f] at *; omega))) (by (first | omega | (simp [inR_t, inR_f] at *; omega))) (by (first | omega | (simp [inR_t, inR_f] at *; omega)))) ?_ | refine Nm.mk (tmodN (by (first | omega | (simp [inR_t, inR_f] at *; omega)))) ?_ | refine Nm.mk (szS _) ?_ | refine Nm.mk (mi_eq _ _) ?_ | refine Nm.mk (ma_eq _ _) ?_ | refine Rq.mk (by first | (simp [dOwnL, dOwn] <;> fail) | (first | omega | (simp [inR_t, inR_f] at *; omega))) ?_ | refine And.intro (orderFast (by kernel_rfl)) ?_ | refine And.intro (by kernel_rfl) ?_ | refine Cl.mk (i_InRange _ _ _) ?_ | refine Cl.mk (hc) ?_ | refine El.mk (getG (by omega)) ?_ | refine Cl.pre (by simp only [shcLL_ints, shcLL_byts, shcLL_strs, Adve.shcs, Fetc.shcs, Gran.shcs, Link.shcs, Mani.shcs, Name.shcs, Read.shcs, Segm.shcs, Topo.shcs]; rfl) ?_))
    exact Vs.Fin.mk (WkR.refl _) (.refl _)
/-- The places at which a number is not negative. -/
def nnT (o : List Int) (j : Nat) : List Int := ((List.range j).filter fun (k : Nat) => decide (0 ≤ gI o k)).map fun (k : Nat) => (k : Int)
theorem nnT_zero (o : List Int) : nnT o 0 = [] := rfl
theorem nnT_yes {o : List Int} {j : Nat} (h : 0 ≤ gI o j) : nnT o (j + 1) = nnT o j ++ [(j : Int)] := by
  simp [nnT, List.range_succ, List.filter_append, List.filter_cons, h]
theorem nnT_no {o : List Int} {j : Nat} (h : ¬ 0 ≤ gI o j) : nnT o (j + 1) = nnT o j := by
  simp [nnT, List.range_succ, List.filter_append, List.filter_cons]; omega
theorem nnT_len (o : List Int) (j : Nat) : (nnT o j).length ≤ j := by
  have := List.length_filter_le (fun (k : Nat) => decide (0 ≤ gI o k)) (List.range j)
  simp at this
  simpa [nnT] using this
def reachL (l : List Adve) (a : Int) : List Int := nnT (distL l a) 6
theorem is25 : FI 25 Try.f25 := ⟨⟨Try.f25, Try.func25, rfl, rfl, rfl, rfl⟩, rfl⟩
set_option maxRecDepth 20000 in
set_option maxHeartbeats 16000000 in
theorem s_Reachable (l : List Adve) (a : Int) (hz : l.length + sumN Adve.size l ≤ 1099511627776) : FO 25 [Al l, I a] [Al l, I a] (Is true (reachL l a)) := by
  refine fok envOk mixed is25 ⟨rfl, rfl, ?_⟩
  have hlen := distL_len l a
  have hc := s_Distances l a hz
  have hR : reachL l a = nnT (distL l a) 6 := rfl
  rw [hR]
  clear hR
  generalize distL l a = D at hc hlen ⊢
  (repeat' ((conv => whnf); first | refine Br.tt ?_ | refine Br.ff ?_ | refine Br.pos (by assumption) ?_ | refine Br.neg (by assumption) ?_ | refine Br.bself ?_ | refine Br.dself ?_ | refine Br.iself ?_ | refine Nm.mk lenC ?_ | refine Nm.mk (wrapI (by (first | omega | (simp [inR_t, inR_f] at *; omega))) (by (first | omega | (simp [inR_t, inR_f] at *; omega)))) ?_ | refine Nm.mk (wrapQ (by (first | omega | (simp [inR_t, inR_f] at *; omega))) (by (first | omega | (simp [inR_t, inR_f] at *; omega))) (by (first | omega | (simp [inR_t, inR_f] at *; omega)))) ?_ | refine Nm.mk (tmodN (by (first | omega | (simp [inR_t, inR_f] at *; omega)))) ?_ | refine Nm.mk (szS _) ?_ | refine Nm.mk (mi_eq _ _) ?_ | refine Nm.mk (ma_eq _ _) ?_ | refine Rq.mk (by first | (simp [dOwnL, dOwn] <;> fail) | (first | omega | (simp [inR_t, inR_f] at *; omega))) ?_ | refine And.intro (orderFast (by kernel_rfl)) ?_ | refine And.intro (by kernel_rfl) ?_ | refine Cl.mk (hc) ?_ | refine Cl.pre (by simp only [shcLL_ints, shcLL_byts, shcLL_strs, Adve.shcs, Fetc.shcs, Gran.shcs, Link.shcs, Mani.shcs, Name.shcs, Read.shcs, Segm.shcs, Topo.shcs]; rfl) ?_))
  refine Lp.mk [.sl 5, .sl 6, .sl 7] (fun m σ => ∃ j, j + m = 6 ∧ σ = [Sa 5 (O (.sl true .non 1 (ints (nnT D j)))), Sa 6 (Is true (D)), Sa 7 (I j)]) (6) _ (WkS.weak _ _) ⟨0, rfl, (by first | rfl | (simp only [zlen, zsum, Nat.zero_mul, Int.add_zero, Int.sub_zero, List.nil_append, markG, nnT_zero]; rfl))⟩ ?_
  rintro m τ ⟨j, hj, rfl⟩
  have hn := nnT_len D j
  refine Nm.mk lenC ?_
  rw [hlen]
  refine Br.dec (fun h => ?_) (fun h => ?_)
  · (repeat' ((conv => whnf); first | refine Br.tt ?_ | refine Br.ff ?_ | refine Br.pos (by assumption) ?_ | refine Br.neg (by assumption) ?_ | refine Br.bself ?_ | refine Br.dself ?_ | refine Br.iself ?_ | refine Nm.mk lenC ?_ | refine Nm.mk (wrapI (by (first | omega | (simp [inR_t, inR_f] at *; omega))) (by (first | omega | (simp [inR_t, inR_f] at *; omega)))) ?_ | refine Nm.mk (wrapQ (by (first | omega | (simp [inR_t, inR_f] at *; omega))) (by (first | omega | (simp [inR_t, inR_f] at *; omega))) (by (first | omega | (simp [inR_t, inR_f] at *; omega)))) ?_ | refine Nm.mk (tmodN (by (first | omega | (simp [inR_t, inR_f] at *; omega)))) ?_ | refine Nm.mk (szS _) ?_ | refine Nm.mk (mi_eq _ _) ?_ | refine Nm.mk (ma_eq _ _) ?_ | refine Rq.mk (by first | (simp [dOwnL, dOwn] <;> fail) | (first | omega | (simp [inR_t, inR_f] at *; omega))) ?_ | refine And.intro (orderFast (by kernel_rfl)) ?_ | refine And.intro (by kernel_rfl) ?_ | refine El.mk (getG (by omega)) ?_ | refine Cl.pre (by simp only [shcLL_ints, shcLL_byts, shcLL_strs, Adve.shcs, Fetc.shcs, Gran.shcs, Link.shcs, Mani.shcs, Name.shcs, Read.shcs, Segm.shcs, Topo.shcs]; rfl) ?_))
    refine Br.mk (fun h4 => ?_) (fun h4 => ?_)
    · (repeat' ((conv => whnf); first | refine Br.tt ?_ | refine Br.ff ?_ | refine Br.pos (by assumption) ?_ | refine Br.neg (by assumption) ?_ | refine Br.bself ?_ | refine Br.dself ?_ | refine Br.iself ?_ | refine Nm.mk lenC ?_ | refine Nm.mk (wrapI (by (first | omega | (simp [inR_t, inR_f] at *; omega))) (by (first | omega | (simp [inR_t, inR_f] at *; omega)))) ?_ | refine Nm.mk (wrapQ (by (first | omega | (simp [inR_t, inR_f] at *; omega))) (by (first | omega | (simp [inR_t, inR_f] at *; omega))) (by (first | omega | (simp [inR_t, inR_f] at *; omega)))) ?_ | refine Nm.mk (tmodN (by (first | omega | (simp [inR_t, inR_f] at *; omega)))) ?_ | refine Nm.mk (szS _) ?_ | refine Nm.mk (mi_eq _ _) ?_ | refine Nm.mk (ma_eq _ _) ?_ | refine Rq.mk (by first | (simp [dOwnL, dOwn] <;> fail) | (first | omega | (simp [inR_t, inR_f] at *; omega))) ?_ | refine And.intro (orderFast (by kernel_rfl)) ?_ | refine And.intro (by kernel_rfl) ?_ ))
      refine Nx.intro (m - 1) (by omega) _ (WkS.weak _ _) ⟨j + 1, by omega, ?_⟩
      (repeat' (first | exact rfl | refine consE ?_ ?_ | refine entE ?_ | refine vI ?_ | refine vS ?_ | refine vT ?_ | refine vB ?_))
      rw [nnT_yes (by simpa using h4)]; simp
    · (repeat' ((conv => whnf); first | refine Br.tt ?_ | refine Br.ff ?_ | refine Br.pos (by assumption) ?_ | refine Br.neg (by assumption) ?_ | refine Br.bself ?_ | refine Br.dself ?_ | refine Br.iself ?_ | refine Nm.mk lenC ?_ | refine Nm.mk (wrapI (by (first | omega | (simp [inR_t, inR_f] at *; omega))) (by (first | omega | (simp [inR_t, inR_f] at *; omega)))) ?_ | refine Nm.mk (wrapQ (by (first | omega | (simp [inR_t, inR_f] at *; omega))) (by (first | omega | (simp [inR_t, inR_f] at *; omega))) (by (first | omega | (simp [inR_t, inR_f] at *; omega)))) ?_ | refine Nm.mk (tmodN (by (first | omega | (simp [inR_t, inR_f] at *; omega)))) ?_ | refine Nm.mk (szS _) ?_ | refine Nm.mk (mi_eq _ _) ?_ | refine Nm.mk (ma_eq _ _) ?_ | refine Rq.mk (by first | (simp [dOwnL, dOwn] <;> fail) | (first | omega | (simp [inR_t, inR_f] at *; omega))) ?_ | refine And.intro (orderFast (by kernel_rfl)) ?_ | refine And.intro (by kernel_rfl) ?_ ))
      refine Nx.intro (m - 1) (by omega) _ (WkS.weak _ _) ⟨j + 1, by omega, ?_⟩
      (repeat' (first | exact rfl | refine consE ?_ ?_ | refine entE ?_ | refine vI ?_ | refine vS ?_ | refine vT ?_ | refine vB ?_))
      rw [nnT_no (by simp at h4; omega)]
  · obtain rfl : j = 6 := by omega
    (repeat' ((conv => whnf); first | refine Br.tt ?_ | refine Br.ff ?_ | refine Br.pos (by assumption) ?_ | refine Br.neg (by assumption) ?_ | refine Br.bself ?_ | refine Br.dself ?_ | refine Br.iself ?_ | refine Nm.mk lenC ?_ | refine Nm.mk (wrapI (by (first | omega | (simp [inR_t, inR_f] at *; omega))) (by (first | omega | (simp [inR_t, inR_f] at *; omega)))) ?_ | refine Nm.mk (wrapQ (by (first | omega | (simp [inR_t, inR_f] at *; omega))) (by (first | omega | (simp [inR_t, inR_f] at *; omega))) (by (first | omega | (simp [inR_t, inR_f] at *; omega)))) ?_ | refine Nm.mk (tmodN (by (first | omega | (simp [inR_t, inR_f] at *; omega)))) ?_ | refine Nm.mk (szS _) ?_ | refine Nm.mk (mi_eq _ _) ?_ | refine Nm.mk (ma_eq _ _) ?_ | refine Rq.mk (by first | (simp [dOwnL, dOwn] <;> fail) | (first | omega | (simp [inR_t, inR_f] at *; omega))) ?_ | refine And.intro (orderFast (by kernel_rfl)) ?_ | refine And.intro (by kernel_rfl) ?_ ))
    exact Vs.Fin.mk (WkR.of (.sl1 rfl .nil)) (.refl _)
theorem is24 : FI 24 Try.f24 := ⟨⟨Try.f24, Try.func24, rfl, rfl, rfl, rfl⟩, rfl⟩
set_option maxRecDepth 20000 in
set_option maxHeartbeats 16000000 in
theorem i_Reachable (l : List Adve) (a : Int) (hz : l.length + sumN Adve.size l ≤ 1099511627776) : FO 24 [Al l, I a] [Al l, I a] (Is true (reachL l a)) := by
  refine fok envOk mixed is24 ⟨rfl, rfl, ?_⟩
  have hlen := distL_len l a
  have hc := i_Distances l a hz
  have hR : reachL l a = nnT (distL l a) 6 := rfl
  rw [hR]
  clear hR
  generalize distL l a = D at hc hlen ⊢
  (repeat' ((conv => whnf); first | refine Br.tt ?_ | refine Br.ff ?_ | refine Br.pos (by assumption) ?_ | refine Br.neg (by assumption) ?_ | refine Br.bself ?_ | refine Br.dself ?_ | refine Br.iself ?_ | refine Nm.mk lenC ?_ | refine Nm.mk (wrapI (by (first | omega | (simp [inR_t, inR_f] at *; omega))) (by (first | omega | (simp [inR_t, inR_f] at *; omega)))) ?_ | refine Nm.mk (wrapQ (by (first | omega | (simp [inR_t, inR_f] at *; omega))) (by (first | omega | (simp [inR_t, inR_f] at *; omega))) (by (first | omega | (simp [inR_t, inR_f] at *; omega)))) ?_ | refine Nm.mk (tmodN (by (first | omega | (simp [inR_t, inR_f] at *; omega)))) ?_ | refine Nm.mk (szS _) ?_ | refine Nm.mk (mi_eq _ _) ?_ | refine Nm.mk (ma_eq _ _) ?_ | refine Rq.mk (by first | (simp [dOwnL, dOwn] <;> fail) | (first | omega | (simp [inR_t, inR_f] at *; omega))) ?_ | refine And.intro (orderFast (by kernel_rfl)) ?_ | refine And.intro (by kernel_rfl) ?_ | refine Cl.mk (hc) ?_ | refine Cl.pre (by simp only [shcLL_ints, shcLL_byts, shcLL_strs, Adve.shcs, Fetc.shcs, Gran.shcs, Link.shcs, Mani.shcs, Name.shcs, Read.shcs, Segm.shcs, Topo.shcs]; rfl) ?_))
  refine Lp.mk [.sl 5, .sl 11, .sl 12, .sl 13] (fun m σ => ∃ j, j + m = 6 ∧ σ = [Sa 5 (O (.sl true .non 1 (ints (nnT D j)))), Sa 11 (Is true (D)), Sa 12 (I 6), Sa 13 (I j)]) (6) _ (WkS.weak _ _) ⟨0, rfl, (by first | rfl | (simp only [zlen, zsum, Nat.zero_mul, Int.add_zero, Int.sub_zero, List.nil_append, markG, nnT_zero, hlen]; rfl))⟩ ?_
  rintro m τ ⟨j, hj, rfl⟩
  have hn := nnT_len D j
  refine Br.dec (fun h => ?_) (fun h => ?_)
  · (repeat' ((conv => whnf); first | refine Br.tt ?_ | refine Br.ff ?_ | refine Br.pos (by assumption) ?_ | refine Br.neg (by assumption) ?_ | refine Br.bself ?_ | refine Br.dself ?_ | refine Br.iself ?_ | refine Nm.mk lenC ?_ | refine Nm.mk (wrapI (by (first | omega | (simp [inR_t, inR_f] at *; omega))) (by (first | omega | (simp [inR_t, inR_f] at *; omega)))) ?_ | refine Nm.mk (wrapQ (by (first | omega | (simp [inR_t, inR_f] at *; omega))) (by (first | omega | (simp [inR_t, inR_f] at *; omega))) (by (first | omega | (simp [inR_t, inR_f] at *; omega)))) ?_ | refine Nm.mk (tmodN (by (first | omega | (simp [inR_t, inR_f] at *; omega)))) ?_ | refine Nm.mk (szS _) ?_ | refine Nm.mk (mi_eq _ _) ?_ | refine Nm.mk (ma_eq _ _) ?_ | refine Rq.mk (by first | (simp [dOwnL, dOwn] <;> fail) | (first | omega | (simp [inR_t, inR_f] at *; omega))) ?_ | refine And.intro (orderFast (by kernel_rfl)) ?_ | refine And.intro (by kernel_rfl) ?_ | refine El.mk (getG (by omega)) ?_ | refine Cl.pre (by simp only [shcLL_ints, shcLL_byts, shcLL_strs, Adve.shcs, Fetc.shcs, Gran.shcs, Link.shcs, Mani.shcs, Name.shcs, Read.shcs, Segm.shcs, Topo.shcs]; rfl) ?_))
    refine Br.mk (fun h4 => ?_) (fun h4 => ?_)
    · (repeat' ((conv => whnf); first | refine Br.tt ?_ | refine Br.ff ?_ | refine Br.pos (by assumption) ?_ | refine Br.neg (by assumption) ?_ | refine Br.bself ?_ | refine Br.dself ?_ | refine Br.iself ?_ | refine Nm.mk lenC ?_ | refine Nm.mk (wrapI (by (first | omega | (simp [inR_t, inR_f] at *; omega))) (by (first | omega | (simp [inR_t, inR_f] at *; omega)))) ?_ | refine Nm.mk (wrapQ (by (first | omega | (simp [inR_t, inR_f] at *; omega))) (by (first | omega | (simp [inR_t, inR_f] at *; omega))) (by (first | omega | (simp [inR_t, inR_f] at *; omega)))) ?_ | refine Nm.mk (tmodN (by (first | omega | (simp [inR_t, inR_f] at *; omega)))) ?_ | refine Nm.mk (szS _) ?_ | refine Nm.mk (mi_eq _ _) ?_ | refine Nm.mk (ma_eq _ _) ?_ | refine Rq.mk (by first | (simp [dOwnL, dOwn] <;> fail) | (first | omega | (simp [inR_t, inR_f] at *; omega))) ?_ | refine And.intro (orderFast (by kernel_rfl)) ?_ | refine And.intro (by kernel_rfl) ?_ ))
      refine Nx.intro (m - 1) (by omega) _ (WkS.weak _ _) ⟨j + 1, by omega, ?_⟩
      (repeat' (first | exact rfl | refine consE ?_ ?_ | refine entE ?_ | refine vI ?_ | refine vS ?_ | refine vT ?_ | refine vB ?_))
      rw [nnT_yes (by simpa using h4)]; simp
    · (repeat' ((conv => whnf); first | refine Br.tt ?_ | refine Br.ff ?_ | refine Br.pos (by assumption) ?_ | refine Br.neg (by assumption) ?_ | refine Br.bself ?_ | refine Br.dself ?_ | refine Br.iself ?_ | refine Nm.mk lenC ?_ | refine Nm.mk (wrapI (by (first | omega | (simp [inR_t, inR_f] at *; omega))) (by (first | omega | (simp [inR_t, inR_f] at *; omega)))) ?_ | refine Nm.mk (wrapQ (by (first | omega | (simp [inR_t, inR_f] at *; omega))) (by (first | omega | (simp [inR_t, inR_f] at *; omega))) (by (first | omega | (simp [inR_t, inR_f] at *; omega)))) ?_ | refine Nm.mk (tmodN (by (first | omega | (simp [inR_t, inR_f] at *; omega)))) ?_ | refine Nm.mk (szS _) ?_ | refine Nm.mk (mi_eq _ _) ?_ | refine Nm.mk (ma_eq _ _) ?_ | refine Rq.mk (by first | (simp [dOwnL, dOwn] <;> fail) | (first | omega | (simp [inR_t, inR_f] at *; omega))) ?_ | refine And.intro (orderFast (by kernel_rfl)) ?_ | refine And.intro (by kernel_rfl) ?_ ))
      refine Nx.intro (m - 1) (by omega) _ (WkS.weak _ _) ⟨j + 1, by omega, ?_⟩
      (repeat' (first | exact rfl | refine consE ?_ ?_ | refine entE ?_ | refine vI ?_ | refine vS ?_ | refine vT ?_ | refine vB ?_))
      rw [nnT_no (by simp at h4; omega)]
  · obtain rfl : j = 6 := by omega
    (repeat' ((conv => whnf); first | refine Br.tt ?_ | refine Br.ff ?_ | refine Br.pos (by assumption) ?_ | refine Br.neg (by assumption) ?_ | refine Br.bself ?_ | refine Br.dself ?_ | refine Br.iself ?_ | refine Nm.mk lenC ?_ | refine Nm.mk (wrapI (by (first | omega | (simp [inR_t, inR_f] at *; omega))) (by (first | omega | (simp [inR_t, inR_f] at *; omega)))) ?_ | refine Nm.mk (wrapQ (by (first | omega | (simp [inR_t, inR_f] at *; omega))) (by (first | omega | (simp [inR_t, inR_f] at *; omega))) (by (first | omega | (simp [inR_t, inR_f] at *; omega)))) ?_ | refine Nm.mk (tmodN (by (first | omega | (simp [inR_t, inR_f] at *; omega)))) ?_ | refine Nm.mk (szS _) ?_ | refine Nm.mk (mi_eq _ _) ?_ | refine Nm.mk (ma_eq _ _) ?_ | refine Rq.mk (by first | (simp [dOwnL, dOwn] <;> fail) | (first | omega | (simp [inR_t, inR_f] at *; omega))) ?_ | refine And.intro (orderFast (by kernel_rfl)) ?_ | refine And.intro (by kernel_rfl) ?_ ))
    exact Vs.Fin.mk (WkR.of (.sl1 rfl .nil)) (.refl _)
def eccT (o : List Int) : Nat → Int
  | 0 => -1
  | j + 1 => ma (eccT o j) (gI o j)
def eccL (l : List Adve) (a : Int) : Int := eccT (distL l a) 6
theorem is27 : FI 27 Try.f27 := ⟨⟨Try.f27, Try.func27, rfl, rfl, rfl, rfl⟩, rfl⟩
set_option maxRecDepth 20000 in
set_option maxHeartbeats 16000000 in
theorem s_Ecc (l : List Adve) (a : Int) (hz : l.length + sumN Adve.size l ≤ 1099511627776) : FO 27 [Al l, I a] [Al l, I a] (I (eccL l a)) := by
  refine fok envOk mixed is27 ⟨rfl, rfl, ?_⟩
  have hlen := distL_len l a
  have hc := s_Distances l a hz
  have hR : eccL l a = eccT (distL l a) 6 := rfl
  rw [hR]
  clear hR
  generalize distL l a = D at hc hlen ⊢
  (repeat' ((conv => whnf); first | refine Br.tt ?_ | refine Br.ff ?_ | refine Br.pos (by assumption) ?_ | refine Br.neg (by assumption) ?_ | refine Br.bself ?_ | refine Br.dself ?_ | refine Br.iself ?_ | refine Nm.mk lenC ?_ | refine Nm.mk (wrapI (by (first | omega | (simp [inR_t, inR_f] at *; omega))) (by (first | omega | (simp [inR_t, inR_f] at *; omega)))) ?_ | refine Nm.mk (wrapQ (by (first | omega | (simp [inR_t, inR_f] at *; omega))) (by (first | omega | (simp [inR_t, inR_f] at *; omega))) (by (first | omega | (simp [inR_t, inR_f] at *; omega)))) ?_ | refine Nm.mk (tmodN (by (first | omega | (simp [inR_t, inR_f] at *; omega)))) ?_ | refine Nm.mk (szS _) ?_ | refine Nm.mk (mi_eq _ _) ?_ | refine Nm.mk (ma_eq _ _) ?_ | refine Rq.mk (by first | (simp [dOwnL, dOwn] <;> fail) | (first | omega | (simp [inR_t, inR_f] at *; omega))) ?_ | refine And.intro (orderFast (by kernel_rfl)) ?_ | refine And.intro (by kernel_rfl) ?_ | refine Cl.mk (hc) ?_ | refine Cl.pre (by simp only [shcLL_ints, shcLL_byts, shcLL_strs, Adve.shcs, Fetc.shcs, Gran.shcs, Link.shcs, Mani.shcs, Name.shcs, Read.shcs, Segm.shcs, Topo.shcs]; rfl) ?_))
  refine Lp.mk [.sl 5, .sl 6, .sl 7] (fun m σ => ∃ j, j + m = 6 ∧ σ = [Sa 5 (I (eccT D j)), Sa 6 (Is true D), Sa 7 (I j)]) (6) _ (WkS.weak _ _) ⟨0, rfl, (by first | rfl | (simp only [zlen, zsum, Nat.zero_mul, Int.add_zero, Int.sub_zero, List.nil_append, markG]; rfl))⟩ ?_
  rintro m τ ⟨j, hj, rfl⟩
  refine Nm.mk lenC ?_
  rw [hlen]
  refine Br.dec (fun h => ?_) (fun h => ?_)
  · (repeat' ((conv => whnf); first | refine Br.tt ?_ | refine Br.ff ?_ | refine Br.pos (by assumption) ?_ | refine Br.neg (by assumption) ?_ | refine Br.bself ?_ | refine Br.dself ?_ | refine Br.iself ?_ | refine Nm.mk lenC ?_ | refine Nm.mk (wrapI (by (first | omega | (simp [inR_t, inR_f] at *; omega))) (by (first | omega | (simp [inR_t, inR_f] at *; omega)))) ?_ | refine Nm.mk (wrapQ (by (first | omega | (simp [inR_t, inR_f] at *; omega))) (by (first | omega | (simp [inR_t, inR_f] at *; omega))) (by (first | omega | (simp [inR_t, inR_f] at *; omega)))) ?_ | refine Nm.mk (tmodN (by (first | omega | (simp [inR_t, inR_f] at *; omega)))) ?_ | refine Nm.mk (szS _) ?_ | refine Nm.mk (mi_eq _ _) ?_ | refine Nm.mk (ma_eq _ _) ?_ | refine Rq.mk (by first | (simp [dOwnL, dOwn] <;> fail) | (first | omega | (simp [inR_t, inR_f] at *; omega))) ?_ | refine And.intro (orderFast (by kernel_rfl)) ?_ | refine And.intro (by kernel_rfl) ?_ | refine El.mk (getG (by omega)) ?_ | refine Cl.mk (s_Max _ _) ?_ | refine Cl.pre (by simp only [shcLL_ints, shcLL_byts, shcLL_strs, Adve.shcs, Fetc.shcs, Gran.shcs, Link.shcs, Mani.shcs, Name.shcs, Read.shcs, Segm.shcs, Topo.shcs]; rfl) ?_))
    refine Nx.intro (m - 1) (by omega) _ (WkS.weak _ _) ⟨j + 1, by omega, ?_⟩
    rfl
  · obtain rfl : j = 6 := by omega
    (repeat' ((conv => whnf); first | refine Br.tt ?_ | refine Br.ff ?_ | refine Br.pos (by assumption) ?_ | refine Br.neg (by assumption) ?_ | refine Br.bself ?_ | refine Br.dself ?_ | refine Br.iself ?_ | refine Nm.mk lenC ?_ | refine Nm.mk (wrapI (by (first | omega | (simp [inR_t, inR_f] at *; omega))) (by (first | omega | (simp [inR_t, inR_f] at *; omega)))) ?_ | refine Nm.mk (wrapQ (by (first | omega | (simp [inR_t, inR_f] at *; omega))) (by (first | omega | (simp [inR_t, inR_f] at *; omega))) (by (first | omega | (simp [inR_t, inR_f] at *; omega)))) ?_ | refine Nm.mk (tmodN (by (first | omega | (simp [inR_t, inR_f] at *; omega)))) ?_ | refine Nm.mk (szS _) ?_ | refine Nm.mk (mi_eq _ _) ?_ | refine Nm.mk (ma_eq _ _) ?_ | refine Rq.mk (by first | (simp [dOwnL, dOwn] <;> fail) | (first | omega | (simp [inR_t, inR_f] at *; omega))) ?_ | refine And.intro (orderFast (by kernel_rfl)) ?_ | refine And.intro (by kernel_rfl) ?_ ))
    exact Vs.Fin.mk (WkR.refl _) (.refl _)
theorem is50 : FI 50 Try.f50 := ⟨⟨Try.f50, Try.func50, rfl, rfl, rfl, rfl⟩, rfl⟩
set_option maxRecDepth 20000 in
set_option maxHeartbeats 16000000 in
theorem Max_6 (o : List Int) (hl : o.length = 6) (h0 : -1 ≤ gI o 0) : FO 50 [Is false o] [Is false o] (I (eccT o 6)) := by
  refine fok envOk mixed is50 ⟨rfl, rfl, ?_⟩
  have e1 : eccT o 1 = gI o 0 := by
    show ma (-1) (gI o 0) = _
    unfold ma; split <;> omega
  have g0 := getG (o := o) (b := 0) (by omega)
  refine Nm.mk lenC ?_
  refine Br.neg (by rw [hl]; rfl) ?_
  refine Rq.mk ⟨by omega, by simp [hl]⟩ ?_
  refine El.mk g0 ?_
  refine Lp.mk [.sl 0, .sl 3, .sl 4] (fun m σ => ∃ j, j + m = 6 ∧ 1 ≤ j ∧ σ = [Sa 0 (Is false o), Sa 3 (I (eccT o j)), Sa 4 (I j)]) (5) _ (WkS.weak _ _) ⟨1, rfl, by omega, (by first | rfl | (simp only [zlen, zsum, Nat.zero_mul, Int.add_zero, Int.sub_zero, List.nil_append, markG, e1]; rfl))⟩ ?_
  rintro m τ ⟨j, hj, hj1, rfl⟩
  refine Nm.mk lenC ?_
  rw [hl]
  refine Br.dec (fun h => ?_) (fun h => ?_)
  · (repeat' ((conv => whnf); first | refine Br.tt ?_ | refine Br.ff ?_ | refine Br.pos (by assumption) ?_ | refine Br.neg (by assumption) ?_ | refine Br.bself ?_ | refine Br.dself ?_ | refine Br.iself ?_ | refine Nm.mk lenC ?_ | refine Nm.mk (wrapI (by (first | omega | (simp [inR_t, inR_f] at *; omega))) (by (first | omega | (simp [inR_t, inR_f] at *; omega)))) ?_ | refine Nm.mk (wrapQ (by (first | omega | (simp [inR_t, inR_f] at *; omega))) (by (first | omega | (simp [inR_t, inR_f] at *; omega))) (by (first | omega | (simp [inR_t, inR_f] at *; omega)))) ?_ | refine Nm.mk (tmodN (by (first | omega | (simp [inR_t, inR_f] at *; omega)))) ?_ | refine Nm.mk (szS _) ?_ | refine Nm.mk (mi_eq _ _) ?_ | refine Nm.mk (ma_eq _ _) ?_ | refine Rq.mk (by first | (simp [dOwnL, dOwn] <;> fail) | (first | omega | (simp [inR_t, inR_f] at *; omega))) ?_ | refine And.intro (orderFast (by kernel_rfl)) ?_ | refine And.intro (by kernel_rfl) ?_ | refine El.mk (getG (by omega)) ?_ | refine Cl.pre (by simp only [shcLL_ints, shcLL_byts, shcLL_strs, Adve.shcs, Fetc.shcs, Gran.shcs, Link.shcs, Mani.shcs, Name.shcs, Read.shcs, Segm.shcs, Topo.shcs]; rfl) ?_))
    refine Nx.intro (m - 1) (by omega) _ (WkS.weak _ _) ⟨j + 1, by omega, by omega, ?_⟩
    rfl
  · obtain rfl : j = 6 := by omega
    (repeat' ((conv => whnf); first | refine Br.tt ?_ | refine Br.ff ?_ | refine Br.pos (by assumption) ?_ | refine Br.neg (by assumption) ?_ | refine Br.bself ?_ | refine Br.dself ?_ | refine Br.iself ?_ | refine Nm.mk lenC ?_ | refine Nm.mk (wrapI (by (first | omega | (simp [inR_t, inR_f] at *; omega))) (by (first | omega | (simp [inR_t, inR_f] at *; omega)))) ?_ | refine Nm.mk (wrapQ (by (first | omega | (simp [inR_t, inR_f] at *; omega))) (by (first | omega | (simp [inR_t, inR_f] at *; omega))) (by (first | omega | (simp [inR_t, inR_f] at *; omega)))) ?_ | refine Nm.mk (tmodN (by (first | omega | (simp [inR_t, inR_f] at *; omega)))) ?_ | refine Nm.mk (szS _) ?_ | refine Nm.mk (mi_eq _ _) ?_ | refine Nm.mk (ma_eq _ _) ?_ | refine Rq.mk (by first | (simp [dOwnL, dOwn] <;> fail) | (first | omega | (simp [inR_t, inR_f] at *; omega))) ?_ | refine And.intro (orderFast (by kernel_rfl)) ?_ | refine And.intro (by kernel_rfl) ?_ ))
    exact Vs.Fin.mk (WkR.refl _) (.refl _)
theorem is26 : FI 26 Try.f26 := ⟨⟨Try.f26, Try.func26, rfl, rfl, rfl, rfl⟩, rfl⟩
set_option maxRecDepth 20000 in
set_option maxHeartbeats 16000000 in
theorem i_Ecc (l : List Adve) (a : Int) (hz : l.length + sumN Adve.size l ≤ 1099511627776) : FO 26 [Al l, I a] [Al l, I a] (I (eccL l a)) := by
  refine fok envOk mixed is26 ⟨rfl, rfl, ?_⟩
  have hr := (distL_is l a).rng 0 (by omega)
  have hc := i_Distances l a hz
  have hm := Max_6 (distL l a) (distL_len l a) hr.1
  have hR : eccL l a = eccT (distL l a) 6 := rfl
  rw [hR]
  clear hR hr
  generalize distL l a = D at hc hm ⊢
  (repeat' ((conv => whnf); first | refine Br.tt ?_ | refine Br.ff ?_ | refine Br.pos (by assumption) ?_ | refine Br.neg (by assumption) ?_ | refine Br.bself ?_ | refine Br.dself ?_ | refine Br.iself ?_ | refine Br.mk (fun _ => ?_) (fun _ => ?_) | refine Nm.mk lenC ?_ | refine Nm.mk (wrapI (by (first | omega | (simp [inR_t, inR_f] at *; omega))) (by (first | omega | (simp [inR_t, inR_f] at *; omega)))) ?_ | refine Nm.mk (wrapQ (by (first | omega | (simp [inR_t, inR_f] at *; omega))) (by (first | omega | (simp [inR_t, inR_f] at *; omega))) (by (first | omega | (simp [inR_t, inR_f] at *; omega)))) ?_ | refine Nm.mk (tmodN (by (first | omega | (simp [inR_t, inR_f] at *; omega)))) ?_ | refine Nm.mk (szS _) ?_ | refine Nm.mk (mi_eq _ _) ?_ | refine Nm.mk (ma_eq _ _) ?_ | refine Rq.mk (by first | (simp [dOwnL, dOwn] <;> fail) | (first | omega | (simp [inR_t, inR_f] at *; omega))) ?_ | refine And.intro (orderFast (by kernel_rfl)) ?_ | refine And.intro (by kernel_rfl) ?_ | refine Cl.mk (hc) ?_ | refine Cl.mk (hm) ?_ | refine Cl.pre (by simp only [shcLL_ints, shcLL_byts, shcLL_strs, Adve.shcs, Fetc.shcs, Gran.shcs, Link.shcs, Mani.shcs, Name.shcs, Read.shcs, Segm.shcs, Topo.shcs]; rfl) ?_))
  exact ⟨WkR.refl _, .refl _⟩
theorem bidA_symm (l : List Adve) (a b : Int) : bidA l a b = bidA l b a := by simp [bidA, Bool.and_comm]
theorem nbrA_any {l : List Adve} {a b : Int} (h : nbrA l a b = true) : l.any (orig a) = true := by
  unfold nbrA at h
  rw [← find_any]
  cases hf : l.find? (orig a) with
  | none => rw [hf] at h; simp at h
  | some x => rfl
theorem clo_zero {l : List Adve} {a b : Int} {x : Nat} (hx : x < 6) (hd : dAt l a b = 0) (hb : bidA l a (x : Int) = true) : dAt l x b ≠ -1 := by
  rw [dAt_def] at hd ⊢
  split at hd
  · rename_i hr
    have hr2 : 0 ≤ b ∧ b ≤ 5 := by simpa [inR_t] using hr
    obtain ⟨c, rfl⟩ : ∃ c : Nat, b = c := ⟨b.toNat, by omega⟩
    simp only [Int.toNat_natCast] at hd ⊢
    have hs := ((distL_is l a).sr c (by omega)).1 hd
    simp only [srcA, Bool.and_eq_true, beq_iff_eq] at hs
    obtain ⟨rfl, -⟩ := hs
    have hb2 : bidA l (x : Int) (c : Int) = true := by rw [bidA_symm]; exact hb
    have hn : nbrA l (x : Int) (c : Int) = true := by simp [bidA] at hb2; exact hb2.1
    have h0 : gI (distL l x) x = 0 := ((distL_is l x).sr x hx).2 (by simp [srcA, nbrA_any hn])
    have h1 := (distL_is l x).nbr x c hx (by omega) (by omega) (by omega) hb2
    simp only [hr, if_true]
    omega
  · omega
noncomputable def cloB (l : List Adve) (a b : Int) (x : Nat) : Bool := decide (0 < dAt l a b) && (bidA l a (x : Int) && decide (dAt l x b = dAt l a b - 1))
noncomputable def cloT (l : List Adve) (a b : Int) (j : Nat) : List Int := ((List.range j).filter (cloB l a b)).map fun (k : Nat) => (k : Int)
theorem cloT_zero (l : List Adve) (a b : Int) : cloT l a b 0 = [] := rfl
theorem cloT_yes {l : List Adve} {a b : Int} {j : Nat} (h : cloB l a b j = true) : cloT l a b (j + 1) = cloT l a b j ++ [(j : Int)] := by
  simp [cloT, List.range_succ, List.filter_append, List.filter_cons, h]
theorem cloT_no {l : List Adve} {a b : Int} {j : Nat} (h : cloB l a b j = false) : cloT l a b (j + 1) = cloT l a b j := by
  simp [cloT, List.range_succ, List.filter_append, List.filter_cons, h]
theorem cloT_len (l : List Adve) (a b : Int) (j : Nat) : (cloT l a b j).length ≤ j := by
  have := List.length_filter_le (cloB l a b) (List.range j)
  simp at this
  simpa [cloT] using this
theorem cloT_none {l : List Adve} {a b : Int} (h : ¬ 0 < dAt l a b) : ∀ j, cloT l a b j = []
  | 0 => rfl
  | j + 1 => by rw [cloT_no (by simp [cloB, h]), cloT_none h j]
theorem is19 : FI 19 Try.f19 := ⟨⟨Try.f19, Try.func19, rfl, rfl, rfl, rfl⟩, rfl⟩
set_option maxRecDepth 20000 in
set_option maxHeartbeats 16000000 in
theorem s_Closer (l : List Adve) (a b : Int) (hz : l.length + sumN Adve.size l ≤ 1099511627776) : FO 19 [Al l, I a, I b] [Al l, I a, I b] (Is true (cloT l a b 6)) := by
  refine fok envOk mixed is19 ⟨rfl, rfl, ?_⟩
  have hdb := dAt_b l a b
  (repeat' ((conv => whnf); first | refine Br.tt ?_ | refine Br.ff ?_ | refine Br.pos (by assumption) ?_ | refine Br.neg (by assumption) ?_ | refine Br.bself ?_ | refine Br.dself ?_ | refine Br.iself ?_ | refine Nm.mk lenC ?_ | refine Nm.mk (wrapI (by (first | omega | (simp [inR_t, inR_f] at *; omega))) (by (first | omega | (simp [inR_t, inR_f] at *; omega)))) ?_ | refine Nm.mk (wrapQ (by (first | omega | (simp [inR_t, inR_f] at *; omega))) (by (first | omega | (simp [inR_t, inR_f] at *; omega))) (by (first | omega | (simp [inR_t, inR_f] at *; omega)))) ?_ | refine Nm.mk (tmodN (by (first | omega | (simp [inR_t, inR_f] at *; omega)))) ?_ | refine Nm.mk (szS _) ?_ | refine Nm.mk (mi_eq _ _) ?_ | refine Nm.mk (ma_eq _ _) ?_ | refine Rq.mk (by first | (simp [dOwnL, dOwn] <;> fail) | (first | omega | (simp [inR_t, inR_f] at *; omega))) ?_ | refine And.intro (orderFast (by kernel_rfl)) ?_ | refine And.intro (by kernel_rfl) ?_ | refine Cl.mk (s_Distance l a b hz) ?_ | refine Cl.pre (by simp only [shcLL_ints, shcLL_byts, shcLL_strs, Adve.shcs, Fetc.shcs, Gran.shcs, Link.shcs, Mani.shcs, Name.shcs, Read.shcs, Segm.shcs, Topo.shcs]; rfl) ?_))
  refine Lp.mk [.sl 0, .sl 1, .sl 2, .sl 7, .sl 8, .sl 9] (fun m σ => ∃ j, j + m = 6 ∧ σ = [Sa 0 (Al l), Sa 1 (I a), Sa 2 (I b), Sa 7 (O (.sl true .non 1 (ints (cloT l a b j)))), Sa 8 (I (dAt l a b)), Sa 9 (I j)]) (6) _ (WkS.weak _ _) ⟨0, rfl, (by first | rfl | (simp only [zlen, zsum, Nat.zero_mul, Int.add_zero, Int.sub_zero, List.nil_append, markG, cloT_zero]; rfl))⟩ ?_
  rintro m τ ⟨j, hj, rfl⟩
  have hcl := cloT_len l a b j
  refine Br.mk (fun h => ?_) (fun h => ?_)
  · (repeat' ((conv => whnf); first | refine Br.tt ?_ | refine Br.ff ?_ | refine Br.pos (by assumption) ?_ | refine Br.neg (by assumption) ?_ | refine Br.bself ?_ | refine Br.dself ?_ | refine Br.iself ?_ | refine Nm.mk lenC ?_ | refine Nm.mk (wrapI (by (first | omega | (simp [inR_t, inR_f] at *; omega))) (by (first | omega | (simp [inR_t, inR_f] at *; omega)))) ?_ | refine Nm.mk (wrapQ (by (first | omega | (simp [inR_t, inR_f] at *; omega))) (by (first | omega | (simp [inR_t, inR_f] at *; omega))) (by (first | omega | (simp [inR_t, inR_f] at *; omega)))) ?_ | refine Nm.mk (tmodN (by (first | omega | (simp [inR_t, inR_f] at *; omega)))) ?_ | refine Nm.mk (szS _) ?_ | refine Nm.mk (mi_eq _ _) ?_ | refine Nm.mk (ma_eq _ _) ?_ | refine Rq.mk (by first | (simp [dOwnL, dOwn] <;> fail) | (first | omega | (simp [inR_t, inR_f] at *; omega))) ?_ | refine And.intro (orderFast (by kernel_rfl)) ?_ | refine And.intro (by kernel_rfl) ?_ ))
    refine Br.mk (fun h1 => ?_) (fun h1 => ?_)
    · (repeat' ((conv => whnf); first | refine Br.tt ?_ | refine Br.ff ?_ | refine Br.pos (by assumption) ?_ | refine Br.neg (by assumption) ?_ | refine Br.bself ?_ | refine Br.dself ?_ | refine Br.iself ?_ | refine Nm.mk lenC ?_ | refine Nm.mk (wrapI (by (first | omega | (simp [inR_t, inR_f] at *; omega))) (by (first | omega | (simp [inR_t, inR_f] at *; omega)))) ?_ | refine Nm.mk (wrapQ (by (first | omega | (simp [inR_t, inR_f] at *; omega))) (by (first | omega | (simp [inR_t, inR_f] at *; omega))) (by (first | omega | (simp [inR_t, inR_f] at *; omega)))) ?_ | refine Nm.mk (tmodN (by (first | omega | (simp [inR_t, inR_f] at *; omega)))) ?_ | refine Nm.mk (szS _) ?_ | refine Nm.mk (mi_eq _ _) ?_ | refine Nm.mk (ma_eq _ _) ?_ | refine Rq.mk (by first | (simp [dOwnL, dOwn] <;> fail) | (first | omega | (simp [inR_t, inR_f] at *; omega))) ?_ | refine And.intro (orderFast (by kernel_rfl)) ?_ | refine And.intro (by kernel_rfl) ?_ | refine Cl.mk (s_Bid l a j hz) ?_ | refine Cl.pre (by simp only [shcLL_ints, shcLL_byts, shcLL_strs, Adve.shcs, Fetc.shcs, Gran.shcs, Link.shcs, Mani.shcs, Name.shcs, Read.shcs, Segm.shcs, Topo.shcs]; rfl) ?_))
      refine Br.mk (fun h2 => ?_) (fun h2 => ?_)
      · (repeat' ((conv => whnf); first | refine Br.tt ?_ | refine Br.ff ?_ | refine Br.pos (by assumption) ?_ | refine Br.neg (by assumption) ?_ | refine Br.bself ?_ | refine Br.dself ?_ | refine Br.iself ?_ | refine Nm.mk lenC ?_ | refine Nm.mk (wrapI (by (first | omega | (simp [inR_t, inR_f] at *; omega))) (by (first | omega | (simp [inR_t, inR_f] at *; omega)))) ?_ | refine Nm.mk (wrapQ (by (first | omega | (simp [inR_t, inR_f] at *; omega))) (by (first | omega | (simp [inR_t, inR_f] at *; omega))) (by (first | omega | (simp [inR_t, inR_f] at *; omega)))) ?_ | refine Nm.mk (tmodN (by (first | omega | (simp [inR_t, inR_f] at *; omega)))) ?_ | refine Nm.mk (szS _) ?_ | refine Nm.mk (mi_eq _ _) ?_ | refine Nm.mk (ma_eq _ _) ?_ | refine Rq.mk (by first | (simp [dOwnL, dOwn] <;> fail) | (first | omega | (simp [inR_t, inR_f] at *; omega))) ?_ | refine And.intro (orderFast (by kernel_rfl)) ?_ | refine And.intro (by kernel_rfl) ?_ | refine Cl.mk (s_Distance l j b hz) ?_ | refine Cl.pre (by simp only [shcLL_ints, shcLL_byts, shcLL_strs, Adve.shcs, Fetc.shcs, Gran.shcs, Link.shcs, Mani.shcs, Name.shcs, Read.shcs, Segm.shcs, Topo.shcs]; rfl) ?_))
        refine Br.mk (fun h3 => ?_) (fun h3 => ?_)
        · (repeat' ((conv => whnf); first | refine Br.tt ?_ | refine Br.ff ?_ | refine Br.pos (by assumption) ?_ | refine Br.neg (by assumption) ?_ | refine Br.bself ?_ | refine Br.dself ?_ | refine Br.iself ?_ | refine Nm.mk lenC ?_ | refine Nm.mk (wrapI (by (first | omega | (simp [inR_t, inR_f] at *; omega))) (by (first | omega | (simp [inR_t, inR_f] at *; omega)))) ?_ | refine Nm.mk (wrapQ (by (first | omega | (simp [inR_t, inR_f] at *; omega))) (by (first | omega | (simp [inR_t, inR_f] at *; omega))) (by (first | omega | (simp [inR_t, inR_f] at *; omega)))) ?_ | refine Nm.mk (tmodN (by (first | omega | (simp [inR_t, inR_f] at *; omega)))) ?_ | refine Nm.mk (szS _) ?_ | refine Nm.mk (mi_eq _ _) ?_ | refine Nm.mk (ma_eq _ _) ?_ | refine Rq.mk (by first | (simp [dOwnL, dOwn] <;> fail) | (first | omega | (simp [inR_t, inR_f] at *; omega))) ?_ | refine And.intro (orderFast (by kernel_rfl)) ?_ | refine And.intro (by kernel_rfl) ?_ ))
          refine Nx.intro (m - 1) (by simp at h; omega) _ (WkS.weak _ _) ⟨j + 1, by simp at h; omega, ?_⟩
          (repeat' (first | exact rfl | refine consE ?_ ?_ | refine entE ?_ | refine vI ?_ | refine vS ?_ | refine vT ?_ | refine vB ?_))
          rw [cloT_yes (by simp_all [cloB])]; simp
        · (repeat' ((conv => whnf); first | refine Br.tt ?_ | refine Br.ff ?_ | refine Br.pos (by assumption) ?_ | refine Br.neg (by assumption) ?_ | refine Br.bself ?_ | refine Br.dself ?_ | refine Br.iself ?_ | refine Nm.mk lenC ?_ | refine Nm.mk (wrapI (by (first | omega | (simp [inR_t, inR_f] at *; omega))) (by (first | omega | (simp [inR_t, inR_f] at *; omega)))) ?_ | refine Nm.mk (wrapQ (by (first | omega | (simp [inR_t, inR_f] at *; omega))) (by (first | omega | (simp [inR_t, inR_f] at *; omega))) (by (first | omega | (simp [inR_t, inR_f] at *; omega)))) ?_ | refine Nm.mk (tmodN (by (first | omega | (simp [inR_t, inR_f] at *; omega)))) ?_ | refine Nm.mk (szS _) ?_ | refine Nm.mk (mi_eq _ _) ?_ | refine Nm.mk (ma_eq _ _) ?_ | refine Rq.mk (by first | (simp [dOwnL, dOwn] <;> fail) | (first | omega | (simp [inR_t, inR_f] at *; omega))) ?_ | refine And.intro (orderFast (by kernel_rfl)) ?_ | refine And.intro (by kernel_rfl) ?_ ))
          refine Nx.intro (m - 1) (by simp at h; omega) _ (WkS.weak _ _) ⟨j + 1, by simp at h; omega, ?_⟩
          (repeat' (first | exact rfl | refine consE ?_ ?_ | refine entE ?_ | refine vI ?_ | refine vS ?_ | refine vT ?_ | refine vB ?_))
          rw [cloT_no (by simp_all [cloB])]
      · (repeat' ((conv => whnf); first | refine Br.tt ?_ | refine Br.ff ?_ | refine Br.pos (by assumption) ?_ | refine Br.neg (by assumption) ?_ | refine Br.bself ?_ | refine Br.dself ?_ | refine Br.iself ?_ | refine Nm.mk lenC ?_ | refine Nm.mk (wrapI (by (first | omega | (simp [inR_t, inR_f] at *; omega))) (by (first | omega | (simp [inR_t, inR_f] at *; omega)))) ?_ | refine Nm.mk (wrapQ (by (first | omega | (simp [inR_t, inR_f] at *; omega))) (by (first | omega | (simp [inR_t, inR_f] at *; omega))) (by (first | omega | (simp [inR_t, inR_f] at *; omega)))) ?_ | refine Nm.mk (tmodN (by (first | omega | (simp [inR_t, inR_f] at *; omega)))) ?_ | refine Nm.mk (szS _) ?_ | refine Nm.mk (mi_eq _ _) ?_ | refine Nm.mk (ma_eq _ _) ?_ | refine Rq.mk (by first | (simp [dOwnL, dOwn] <;> fail) | (first | omega | (simp [inR_t, inR_f] at *; omega))) ?_ | refine And.intro (orderFast (by kernel_rfl)) ?_ | refine And.intro (by kernel_rfl) ?_ ))
        refine Nx.intro (m - 1) (by simp at h; omega) _ (WkS.weak _ _) ⟨j + 1, by simp at h; omega, ?_⟩
        (repeat' (first | exact rfl | refine consE ?_ ?_ | refine entE ?_ | refine vI ?_ | refine vS ?_ | refine vT ?_ | refine vB ?_))
        rw [cloT_no (by simp_all [cloB])]
    · (repeat' ((conv => whnf); first | refine Br.tt ?_ | refine Br.ff ?_ | refine Br.pos (by assumption) ?_ | refine Br.neg (by assumption) ?_ | refine Br.bself ?_ | refine Br.dself ?_ | refine Br.iself ?_ | refine Nm.mk lenC ?_ | refine Nm.mk (wrapI (by (first | omega | (simp [inR_t, inR_f] at *; omega))) (by (first | omega | (simp [inR_t, inR_f] at *; omega)))) ?_ | refine Nm.mk (wrapQ (by (first | omega | (simp [inR_t, inR_f] at *; omega))) (by (first | omega | (simp [inR_t, inR_f] at *; omega))) (by (first | omega | (simp [inR_t, inR_f] at *; omega)))) ?_ | refine Nm.mk (tmodN (by (first | omega | (simp [inR_t, inR_f] at *; omega)))) ?_ | refine Nm.mk (szS _) ?_ | refine Nm.mk (mi_eq _ _) ?_ | refine Nm.mk (ma_eq _ _) ?_ | refine Rq.mk (by first | (simp [dOwnL, dOwn] <;> fail) | (first | omega | (simp [inR_t, inR_f] at *; omega))) ?_ | refine And.intro (orderFast (by kernel_rfl)) ?_ | refine And.intro (by kernel_rfl) ?_ ))
      have hn : ¬ 0 < dAt l a b := by simpa using h1
      refine Vs.Fin.mk (WkR.of (.sl1 ?_ .nil)) (.refl _)
      rw [cloT_none hn, cloT_none hn]
  · obtain rfl : j = 6 := by simp at h; omega
    (repeat' ((conv => whnf); first | refine Br.tt ?_ | refine Br.ff ?_ | refine Br.pos (by assumption) ?_ | refine Br.neg (by assumption) ?_ | refine Br.bself ?_ | refine Br.dself ?_ | refine Br.iself ?_ | refine Nm.mk lenC ?_ | refine Nm.mk (wrapI (by (first | omega | (simp [inR_t, inR_f] at *; omega))) (by (first | omega | (simp [inR_t, inR_f] at *; omega)))) ?_ | refine Nm.mk (wrapQ (by (first | omega | (simp [inR_t, inR_f] at *; omega))) (by (first | omega | (simp [inR_t, inR_f] at *; omega))) (by (first | omega | (simp [inR_t, inR_f] at *; omega)))) ?_ | refine Nm.mk (tmodN (by (first | omega | (simp [inR_t, inR_f] at *; omega)))) ?_ | refine Nm.mk (szS _) ?_ | refine Nm.mk (mi_eq _ _) ?_ | refine Nm.mk (ma_eq _ _) ?_ | refine Rq.mk (by first | (simp [dOwnL, dOwn] <;> fail) | (first | omega | (simp [inR_t, inR_f] at *; omega))) ?_ | refine And.intro (orderFast (by kernel_rfl)) ?_ | refine And.intro (by kernel_rfl) ?_ ))
    exact Vs.Fin.mk (WkR.of (.sl1 rfl .nil)) (.refl _)
theorem is16 : FI 16 Try.f16 := ⟨⟨Try.f16, Try.func16, rfl, rfl, rfl, rfl⟩, rfl⟩
set_option maxRecDepth 20000 in
set_option maxHeartbeats 16000000 in
theorem i_Closer (l : List Adve) (a b : Int) (hz : l.length + sumN Adve.size l ≤ 1099511627776) : FO 16 [Al l, I a, I b] [Al l, I a, I b] (Is true (cloT l a b 6)) := by
  refine fok envOk mixed is16 ⟨rfl, rfl, ?_⟩
  have hdb := dAt_b l a b
  (repeat' ((conv => whnf); first | refine Br.tt ?_ | refine Br.ff ?_ | refine Br.pos (by assumption) ?_ | refine Br.neg (by assumption) ?_ | refine Br.bself ?_ | refine Br.dself ?_ | refine Br.iself ?_ | refine Nm.mk lenC ?_ | refine Nm.mk (wrapI (by (first | omega | (simp [inR_t, inR_f] at *; omega))) (by (first | omega | (simp [inR_t, inR_f] at *; omega)))) ?_ | refine Nm.mk (wrapQ (by (first | omega | (simp [inR_t, inR_f] at *; omega))) (by (first | omega | (simp [inR_t, inR_f] at *; omega))) (by (first | omega | (simp [inR_t, inR_f] at *; omega)))) ?_ | refine Nm.mk (tmodN (by (first | omega | (simp [inR_t, inR_f] at *; omega)))) ?_ | refine Nm.mk (szS _) ?_ | refine Nm.mk (mi_eq _ _) ?_ | refine Nm.mk (ma_eq _ _) ?_ | refine Rq.mk (by first | (simp [dOwnL, dOwn] <;> fail) | (first | omega | (simp [inR_t, inR_f] at *; omega))) ?_ | refine And.intro (orderFast (by kernel_rfl)) ?_ | refine And.intro (by kernel_rfl) ?_ | refine Cl.mk (i_Distance l a b hz) ?_ | refine Cl.pre (by simp only [shcLL_ints, shcLL_byts, shcLL_strs, Adve.shcs, Fetc.shcs, Gran.shcs, Link.shcs, Mani.shcs, Name.shcs, Read.shcs, Segm.shcs, Topo.shcs]; rfl) ?_))
  refine Lp.mk [.sl 0, .sl 1, .sl 2, .sl 7, .sl 8, .sl 15] (fun m σ => ∃ j, j + m = 6 ∧ σ = [Sa 0 (Al l), Sa 1 (I a), Sa 2 (I b), Sa 7 (I (dAt l a b)), Sa 8 (O (.sl true .non 1 (ints (cloT l a b j)))), Sa 15 (I j)]) (6) _ (WkS.weak _ _) ⟨0, rfl, (by first | rfl | (simp only [zlen, zsum, Nat.zero_mul, Int.add_zero, Int.sub_zero, List.nil_append, markG, cloT_zero]; rfl))⟩ ?_
  rintro m τ ⟨j, hj, rfl⟩
  have hcl := cloT_len l a b j
  refine Br.mk (fun h => ?_) (fun h => ?_)
  · (repeat' ((conv => whnf); first | refine Br.tt ?_ | refine Br.ff ?_ | refine Br.pos (by assumption) ?_ | refine Br.neg (by assumption) ?_ | refine Br.bself ?_ | refine Br.dself ?_ | refine Br.iself ?_ | refine Nm.mk lenC ?_ | refine Nm.mk (wrapI (by (first | omega | (simp [inR_t, inR_f] at *; omega))) (by (first | omega | (simp [inR_t, inR_f] at *; omega)))) ?_ | refine Nm.mk (wrapQ (by (first | omega | (simp [inR_t, inR_f] at *; omega))) (by (first | omega | (simp [inR_t, inR_f] at *; omega))) (by (first | omega | (simp [inR_t, inR_f] at *; omega)))) ?_ | refine Nm.mk (tmodN (by (first | omega | (simp [inR_t, inR_f] at *; omega)))) ?_ | refine Nm.mk (szS _) ?_ | refine Nm.mk (mi_eq _ _) ?_ | refine Nm.mk (ma_eq _ _) ?_ | refine Rq.mk (by first | (simp [dOwnL, dOwn] <;> fail) | (first | omega | (simp [inR_t, inR_f] at *; omega))) ?_ | refine And.intro (orderFast (by kernel_rfl)) ?_ | refine And.intro (by kernel_rfl) ?_ ))
    refine Br.mk (fun h1 => ?_) (fun h1 => ?_)
    · (repeat' ((conv => whnf); first | refine Br.tt ?_ | refine Br.ff ?_ | refine Br.pos (by assumption) ?_ | refine Br.neg (by assumption) ?_ | refine Br.bself ?_ | refine Br.dself ?_ | refine Br.iself ?_ | refine Nm.mk lenC ?_ | refine Nm.mk (wrapI (by (first | omega | (simp [inR_t, inR_f] at *; omega))) (by (first | omega | (simp [inR_t, inR_f] at *; omega)))) ?_ | refine Nm.mk (wrapQ (by (first | omega | (simp [inR_t, inR_f] at *; omega))) (by (first | omega | (simp [inR_t, inR_f] at *; omega))) (by (first | omega | (simp [inR_t, inR_f] at *; omega)))) ?_ | refine Nm.mk (tmodN (by (first | omega | (simp [inR_t, inR_f] at *; omega)))) ?_ | refine Nm.mk (szS _) ?_ | refine Nm.mk (mi_eq _ _) ?_ | refine Nm.mk (ma_eq _ _) ?_ | refine Rq.mk (by first | (simp [dOwnL, dOwn] <;> fail) | (first | omega | (simp [inR_t, inR_f] at *; omega))) ?_ | refine And.intro (orderFast (by kernel_rfl)) ?_ | refine And.intro (by kernel_rfl) ?_ | refine Cl.mk (i_Bid l a j hz) ?_ | refine Cl.pre (by simp only [shcLL_ints, shcLL_byts, shcLL_strs, Adve.shcs, Fetc.shcs, Gran.shcs, Link.shcs, Mani.shcs, Name.shcs, Read.shcs, Segm.shcs, Topo.shcs]; rfl) ?_))
      refine Br.mk (fun h2 => ?_) (fun h2 => ?_)
      · (repeat' ((conv => whnf); first | refine Br.tt ?_ | refine Br.ff ?_ | refine Br.pos (by assumption) ?_ | refine Br.neg (by assumption) ?_ | refine Br.bself ?_ | refine Br.dself ?_ | refine Br.iself ?_ | refine Nm.mk lenC ?_ | refine Nm.mk (wrapI (by (first | omega | (simp [inR_t, inR_f] at *; omega))) (by (first | omega | (simp [inR_t, inR_f] at *; omega)))) ?_ | refine Nm.mk (wrapQ (by (first | omega | (simp [inR_t, inR_f] at *; omega))) (by (first | omega | (simp [inR_t, inR_f] at *; omega))) (by (first | omega | (simp [inR_t, inR_f] at *; omega)))) ?_ | refine Nm.mk (tmodN (by (first | omega | (simp [inR_t, inR_f] at *; omega)))) ?_ | refine Nm.mk (szS _) ?_ | refine Nm.mk (mi_eq _ _) ?_ | refine Nm.mk (ma_eq _ _) ?_ | refine Rq.mk (by first | (simp [dOwnL, dOwn] <;> fail) | (first | omega | (simp [inR_t, inR_f] at *; omega))) ?_ | refine And.intro (orderFast (by kernel_rfl)) ?_ | refine And.intro (by kernel_rfl) ?_ | refine Cl.mk (i_Distance l j b hz) ?_ | refine Cl.pre (by simp only [shcLL_ints, shcLL_byts, shcLL_strs, Adve.shcs, Fetc.shcs, Gran.shcs, Link.shcs, Mani.shcs, Name.shcs, Read.shcs, Segm.shcs, Topo.shcs]; rfl) ?_))
        refine Br.mk (fun h3 => ?_) (fun h3 => ?_)
        · (repeat' ((conv => whnf); first | refine Br.tt ?_ | refine Br.ff ?_ | refine Br.pos (by assumption) ?_ | refine Br.neg (by assumption) ?_ | refine Br.bself ?_ | refine Br.dself ?_ | refine Br.iself ?_ | refine Nm.mk lenC ?_ | refine Nm.mk (wrapI (by (first | omega | (simp [inR_t, inR_f] at *; omega))) (by (first | omega | (simp [inR_t, inR_f] at *; omega)))) ?_ | refine Nm.mk (wrapQ (by (first | omega | (simp [inR_t, inR_f] at *; omega))) (by (first | omega | (simp [inR_t, inR_f] at *; omega))) (by (first | omega | (simp [inR_t, inR_f] at *; omega)))) ?_ | refine Nm.mk (tmodN (by (first | omega | (simp [inR_t, inR_f] at *; omega)))) ?_ | refine Nm.mk (szS _) ?_ | refine Nm.mk (mi_eq _ _) ?_ | refine Nm.mk (ma_eq _ _) ?_ | refine Rq.mk (by first | (simp [dOwnL, dOwn] <;> fail) | (first | omega | (simp [inR_t, inR_f] at *; omega))) ?_ | refine And.intro (orderFast (by kernel_rfl)) ?_ | refine And.intro (by kernel_rfl) ?_ ))
          refine Nx.intro (m - 1) (by simp at h; omega) _ (WkS.weak _ _) ⟨j + 1, by simp at h; omega, ?_⟩
          (repeat' (first | exact rfl | refine consE ?_ ?_ | refine entE ?_ | refine vI ?_ | refine vS ?_ | refine vT ?_ | refine vB ?_))
          have hz0 : dAt l a b ≠ 0 := fun h0 => clo_zero (x := j) (by simp at h; omega) h0 h2 (by simp at h3; omega)
          rw [cloT_yes (by simp at h1 h3; simp [cloB, h2]; omega)]; simp
        · (repeat' ((conv => whnf); first | refine Br.tt ?_ | refine Br.ff ?_ | refine Br.pos (by assumption) ?_ | refine Br.neg (by assumption) ?_ | refine Br.bself ?_ | refine Br.dself ?_ | refine Br.iself ?_ | refine Nm.mk lenC ?_ | refine Nm.mk (wrapI (by (first | omega | (simp [inR_t, inR_f] at *; omega))) (by (first | omega | (simp [inR_t, inR_f] at *; omega)))) ?_ | refine Nm.mk (wrapQ (by (first | omega | (simp [inR_t, inR_f] at *; omega))) (by (first | omega | (simp [inR_t, inR_f] at *; omega))) (by (first | omega | (simp [inR_t, inR_f] at *; omega)))) ?_ | refine Nm.mk (tmodN (by (first | omega | (simp [inR_t, inR_f] at *; omega)))) ?_ | refine Nm.mk (szS _) ?_ | refine Nm.mk (mi_eq _ _) ?_ | refine Nm.mk (ma_eq _ _) ?_ | refine Rq.mk (by first | (simp [dOwnL, dOwn] <;> fail) | (first | omega | (simp [inR_t, inR_f] at *; omega))) ?_ | refine And.intro (orderFast (by kernel_rfl)) ?_ | refine And.intro (by kernel_rfl) ?_ ))
          refine Nx.intro (m - 1) (by simp at h; omega) _ (WkS.weak _ _) ⟨j + 1, by simp at h; omega, ?_⟩
          (repeat' (first | exact rfl | refine consE ?_ ?_ | refine entE ?_ | refine vI ?_ | refine vS ?_ | refine vT ?_ | refine vB ?_))
          rw [cloT_no (by simp_all [cloB])]
      · (repeat' ((conv => whnf); first | refine Br.tt ?_ | refine Br.ff ?_ | refine Br.pos (by assumption) ?_ | refine Br.neg (by assumption) ?_ | refine Br.bself ?_ | refine Br.dself ?_ | refine Br.iself ?_ | refine Nm.mk lenC ?_ | refine Nm.mk (wrapI (by (first | omega | (simp [inR_t, inR_f] at *; omega))) (by (first | omega | (simp [inR_t, inR_f] at *; omega)))) ?_ | refine Nm.mk (wrapQ (by (first | omega | (simp [inR_t, inR_f] at *; omega))) (by (first | omega | (simp [inR_t, inR_f] at *; omega))) (by (first | omega | (simp [inR_t, inR_f] at *; omega)))) ?_ | refine Nm.mk (tmodN (by (first | omega | (simp [inR_t, inR_f] at *; omega)))) ?_ | refine Nm.mk (szS _) ?_ | refine Nm.mk (mi_eq _ _) ?_ | refine Nm.mk (ma_eq _ _) ?_ | refine Rq.mk (by first | (simp [dOwnL, dOwn] <;> fail) | (first | omega | (simp [inR_t, inR_f] at *; omega))) ?_ | refine And.intro (orderFast (by kernel_rfl)) ?_ | refine And.intro (by kernel_rfl) ?_ ))
        refine Nx.intro (m - 1) (by simp at h; omega) _ (WkS.weak _ _) ⟨j + 1, by simp at h; omega, ?_⟩
        (repeat' (first | exact rfl | refine consE ?_ ?_ | refine entE ?_ | refine vI ?_ | refine vS ?_ | refine vT ?_ | refine vB ?_))
        rw [cloT_no (by simp_all [cloB])]
    · (repeat' ((conv => whnf); first | refine Br.tt ?_ | refine Br.ff ?_ | refine Br.pos (by assumption) ?_ | refine Br.neg (by assumption) ?_ | refine Br.bself ?_ | refine Br.dself ?_ | refine Br.iself ?_ | refine Nm.mk lenC ?_ | refine Nm.mk (wrapI (by (first | omega | (simp [inR_t, inR_f] at *; omega))) (by (first | omega | (simp [inR_t, inR_f] at *; omega)))) ?_ | refine Nm.mk (wrapQ (by (first | omega | (simp [inR_t, inR_f] at *; omega))) (by (first | omega | (simp [inR_t, inR_f] at *; omega))) (by (first | omega | (simp [inR_t, inR_f] at *; omega)))) ?_ | refine Nm.mk (tmodN (by (first | omega | (simp [inR_t, inR_f] at *; omega)))) ?_ | refine Nm.mk (szS _) ?_ | refine Nm.mk (mi_eq _ _) ?_ | refine Nm.mk (ma_eq _ _) ?_ | refine Rq.mk (by first | (simp [dOwnL, dOwn] <;> fail) | (first | omega | (simp [inR_t, inR_f] at *; omega))) ?_ | refine And.intro (orderFast (by kernel_rfl)) ?_ | refine And.intro (by kernel_rfl) ?_ ))
      refine Nx.intro (m - 1) (by simp at h; omega) _ (WkS.weak _ _) ⟨j + 1, by simp at h; omega, ?_⟩
      (repeat' (first | exact rfl | refine consE ?_ ?_ | refine entE ?_ | refine vI ?_ | refine vS ?_ | refine vT ?_ | refine vB ?_))
      rw [cloT_no (by simp at h1; simp [cloB]; omega)]
  · obtain rfl : j = 6 := by simp at h; omega
    (repeat' ((conv => whnf); first | refine Br.tt ?_ | refine Br.ff ?_ | refine Br.pos (by assumption) ?_ | refine Br.neg (by assumption) ?_ | refine Br.bself ?_ | refine Br.dself ?_ | refine Br.iself ?_ | refine Nm.mk lenC ?_ | refine Nm.mk (wrapI (by (first | omega | (simp [inR_t, inR_f] at *; omega))) (by (first | omega | (simp [inR_t, inR_f] at *; omega)))) ?_ | refine Nm.mk (wrapQ (by (first | omega | (simp [inR_t, inR_f] at *; omega))) (by (first | omega | (simp [inR_t, inR_f] at *; omega))) (by (first | omega | (simp [inR_t, inR_f] at *; omega)))) ?_ | refine Nm.mk (tmodN (by (first | omega | (simp [inR_t, inR_f] at *; omega)))) ?_ | refine Nm.mk (szS _) ?_ | refine Nm.mk (mi_eq _ _) ?_ | refine Nm.mk (ma_eq _ _) ?_ | refine Rq.mk (by first | (simp [dOwnL, dOwn] <;> fail) | (first | omega | (simp [inR_t, inR_f] at *; omega))) ?_ | refine And.intro (orderFast (by kernel_rfl)) ?_ | refine And.intro (by kernel_rfl) ?_ ))
    exact Vs.Fin.mk (WkR.of (.sl1 rfl .nil)) (.refl _)
/-! Distances are symmetric -/
theorem low_le : ∀ (n : Nat) (l : List Int), (∀ k : Nat, k < n → (k : Int) ∈ l) → n ≤ l.length
  | 0, _, _ => Nat.zero_le _
  | n + 1, l, h => by
    have h1 := low_le n (l.erase (n : Int)) (fun k hk => (List.mem_erase_of_ne (by omega)).2 (h k (by omega)))
    have h2 := List.length_erase_of_mem (h n (by omega))
    have h3 : 0 < l.length := List.length_pos_of_mem (h n (by omega))
    omega
theorem IsD.low {adj : Nat → Nat → Bool} {src : Nat → Bool} {o : List Int} (h : IsD adj src o) : ∀ (k v : Nat), v < 6 → gI o v = k → ∀ j : Nat, j ≤ k → (j : Int) ∈ o
  | k, v, hv, e, j, hj => by
    have hm : gI o v ∈ o := by
      have hl := h.len
      unfold gI
      rw [List.getD_eq_getElem?_getD, List.getElem?_eq_getElem (by omega)]
      exact List.getElem_mem _
    by_cases hjk : j = k
    · subst hjk; rw [← e]; exact hm
    · obtain ⟨k', rfl⟩ : ∃ k', k = k' + 1 := ⟨k - 1, by omega⟩
      obtain ⟨u, hu, -, he⟩ := h.pred v hv (by omega)
      exact IsD.low h k' u hu (by omega) j (by omega)
theorem IsD.le5 {adj : Nat → Nat → Bool} {src : Nat → Bool} {o : List Int} (h : IsD adj src o) (v : Nat) (hv : v < 6) : gI o v ≤ 5 := by
  rcases Int.lt_or_le (gI o v) 0 with h0 | h0
  · omega
  obtain ⟨k, hk⟩ : ∃ k : Nat, gI o v = k := ⟨(gI o v).toNat, by omega⟩
  have := low_le (k + 1) o (fun j hj => IsD.low h k v hv hk j (by omega))
  have := h.len
  omega
section
variable {adj : Nat → Nat → Bool} {fnd : Nat → Bool} {D : Nat → List Int}
/-- The step to a neighbor. -/
theorem via (hD : ∀ a, a < 6 → IsD adj (fun v => (v == a) && fnd a) (D a)) (hs : ∀ u v, adj u v = adj v u) (hf : ∀ u v, adj u v = true → fnd u = true) {v w : Nat} (hv : v < 6) (hw : w < 6) (ha : adj v w = true) :
    ∀ (j x : Nat), x < 6 → gI (D w) x = j → 0 ≤ gI (D v) x ∧ gI (D v) x ≤ j + 1
  | j, x, hx, e => by
    have dv := hD v hv
    have dw := hD w hw
    by_cases hj : j = 0
    · subst hj
      have hxw := (dw.sr x hx).1 (by simpa using e)
      simp only [Bool.and_eq_true, beq_iff_eq] at hxw
      obtain ⟨rfl, -⟩ := hxw
      have h0 := (dv.sr v hv).2 (by simp [hf v x ha])
      have := dv.nbr v x hv hx (by omega) (by omega) ha
      omega
    · obtain ⟨k, rfl⟩ : ∃ k, j = k + 1 := ⟨j - 1, by omega⟩
      obtain ⟨u, hu, ha2, he⟩ := dw.pred x hx (by omega)
      have ih := via hD hs hf hv hw ha k u hu (by omega)
      have := dv.le5 u hu
      have := dv.nbr u x hu hx ih.1 (by omega) ha2
      omega
theorem symle (hD : ∀ a, a < 6 → IsD adj (fun v => (v == a) && fnd a) (D a)) (hs : ∀ u v, adj u v = adj v u) (hf : ∀ u v, adj u v = true → fnd u = true) :
    ∀ (k u v : Nat), u < 6 → v < 6 → gI (D u) v = k → 0 ≤ gI (D v) u ∧ gI (D v) u ≤ k
  | k, u, v, hu, hv, e => by
    have du := hD u hu
    by_cases hk : k = 0
    · subst hk
      have hxw := (du.sr v hv).1 (by simpa using e)
      simp only [Bool.and_eq_true, beq_iff_eq] at hxw
      obtain ⟨rfl, -⟩ := hxw
      omega
    · obtain ⟨j, rfl⟩ : ∃ j, k = j + 1 := ⟨k - 1, by omega⟩
      obtain ⟨w, hw, ha, he⟩ := du.pred v hv (by omega)
      have ih := symle hD hs hf j u w hu hw (by omega)
      obtain ⟨i, hi⟩ : ∃ i : Nat, gI (D w) u = i := ⟨(gI (D w) u).toNat, by omega⟩
      have := via hD hs hf hv hw (by rw [hs]; exact ha) i u hu hi
      omega
theorem symD (hD : ∀ a, a < 6 → IsD adj (fun v => (v == a) && fnd a) (D a)) (hs : ∀ u v, adj u v = adj v u) (hf : ∀ u v, adj u v = true → fnd u = true) (u v : Nat) (hu : u < 6) (hv : v < 6) : gI (D u) v = gI (D v) u := by
  have r1 := (hD u hu).rng v hv
  have r2 := (hD v hv).rng u hu
  have h1 : 0 ≤ gI (D u) v → 0 ≤ gI (D v) u ∧ gI (D v) u ≤ gI (D u) v := fun h => by
    have := symle hD hs hf (gI (D u) v).toNat u v hu hv (by omega)
    omega
  have h2 : 0 ≤ gI (D v) u → 0 ≤ gI (D u) v ∧ gI (D u) v ≤ gI (D v) u := fun h => by
    have := symle hD hs hf (gI (D v) u).toNat v u hv hu (by omega)
    omega
  by_cases h : 0 ≤ gI (D u) v
  · have := h1 h
    have := h2 (by omega)
    omega
  · by_cases h' : 0 ≤ gI (D v) u
    · have := h2 h'
      omega
    · omega
end
theorem bidA_sym (l : List Adve) (a b : Int) : bidA l a b = bidA l b a := by unfold bidA; rw [Bool.and_comm]
theorem bidA_any {l : List Adve} {a b : Int} (h : bidA l a b = true) : l.any (orig a) = true := by
  unfold bidA nbrA at h
  rw [← find_any]
  cases hf : l.find? (orig a) with
  | none => rw [hf] at h; simp at h
  | some x => rfl
theorem distL_isN (l : List Adve) (a : Nat) : IsD (adjA l) (fun v => (v == a) && l.any (orig (a : Int))) (distL l (a : Int)) := by
  have e : srcA l (a : Int) = fun v => (v == a) && l.any (orig (a : Int)) := by
    funext v
    unfold srcA
    congr 1
    exact Bool.eq_iff_iff.2 (by simp only [beq_iff_eq]; omega)
  have := distL_is l (a : Int)
  rw [e] at this
  exact this
theorem dAt_nat (l : List Adve) (u v : Nat) (hv : v < 6) : dAt l (u : Int) (v : Int) = gI (distL l (u : Int)) v := by
  rw [dAt_def, show inR (v : Int) 0 5 = true by rw [inR_t]; omega]; rfl
theorem dAt_sym {l : List Adve} {a b : Int} (ha : 0 ≤ a ∧ a ≤ 5) (hb : 0 ≤ b ∧ b ≤ 5) : dAt l a b = dAt l b a := by
  obtain ⟨u, rfl⟩ : ∃ u : Nat, a = u := ⟨a.toNat, by omega⟩
  obtain ⟨v, rfl⟩ : ∃ v : Nat, b = v := ⟨b.toNat, by omega⟩
  rw [dAt_nat l u v (by omega), dAt_nat l v u (by omega)]
  exact symD (D := fun a => distL l (a : Int)) (fnd := fun a => l.any (orig (a : Int))) (fun a _ => distL_isN l a) (fun u v => bidA_sym l _ _) (fun u v h => bidA_any h) u v (by omega) (by omega)
theorem dAt_out {l : List Adve} {a b : Int} (ha : ¬ (0 ≤ a ∧ a ≤ 5)) : dAt l a b = -1 := by
  rw [dAt_def]
  split
  · rename_i h
    rw [inR_t] at h
    have d := distL_is l a
    have r := d.rng b.toNat (by omega)
    by_cases h0 : 0 ≤ gI (distL l a) b.toNat
    · exfalso
      obtain ⟨k, hk⟩ : ∃ k : Nat, gI (distL l a) b.toNat = k := ⟨(gI (distL l a) b.toNat).toNat, by omega⟩
      have hm := IsD.low d k b.toNat (by omega) hk 0 (by omega)
      obtain ⟨i, hi, he⟩ := List.mem_iff_getElem.1 hm
      have hl := d.len
      have := (d.sr i (by omega)).1 (by unfold gI; rw [List.getD_eq_getElem?_getD, List.getElem?_eq_getElem hi, he]; rfl)
      simp only [srcA, Bool.and_eq_true, beq_iff_eq] at this
      omega
    · omega
  · rfl
theorem clo_pos {l : List Adve} {a b : Int} (h : 0 < dAt l a b) : cloT l a b 6 ≠ [] := by
  have ha : 0 ≤ a ∧ a ≤ 5 := Classical.byContradiction fun hn => by rw [dAt_out hn] at h; omega
  have hb : 0 ≤ b ∧ b ≤ 5 := Classical.byContradiction fun hn => by
    rw [dAt_def, if_neg (by rw [inR_t]; exact hn)] at h; omega
  have hsy := dAt_sym (l := l) ha hb
  obtain ⟨u, rfl⟩ : ∃ u : Nat, a = u := ⟨a.toNat, by omega⟩
  obtain ⟨v, rfl⟩ : ∃ v : Nat, b = v := ⟨b.toNat, by omega⟩
  have e := dAt_nat l v u (by omega)
  obtain ⟨w, hw, h1, h2⟩ := (distL_is l v).pred u (by omega) (by omega)
  have e2 := dAt_nat l v w hw
  have hs2 := dAt_sym (l := l) (a := w) (b := v) (by omega) hb
  have : (w : Int) ∈ cloT l u v 6 := by
    refine List.mem_map.2 ⟨w, List.mem_filter.2 ⟨by simpa using hw, ?_⟩, rfl⟩
    have h1' : bidA l (u : Int) (w : Int) = true := by rw [bidA_sym]; exact h1
    unfold cloB
    rw [h1', decide_eq_true h, decide_eq_true (show dAt l w v = dAt l u v - 1 by omega)]; rfl
  intro hn; rw [hn] at this; simp at this
theorem clo_neg {l : List Adve} {a b : Int} (h : ¬ 0 < dAt l a b) : cloT l a b 6 = [] := by
  unfold cloT
  rw [List.filter_eq_nil_iff.2]
  · rfl
  · intro x _
    unfold cloB
    rw [decide_eq_false h]; simp
theorem clo_mem {l : List Adve} {a b x : Int} (h : x ∈ cloT l a b 6) : bidA l a x = true ∧ dAt l x b = dAt l a b - 1 := by
  obtain ⟨k, hk, rfl⟩ := List.mem_map.1 h
  have := (List.mem_filter.1 hk).2
  unfold cloB at this
  simp only [Bool.and_eq_true, decide_eq_true_eq] at this
  exact this.2
theorem bid_one {l : List Adve} {a b : Int} (h : bidA l a b = true) (hne : a ≠ b) (ha : 0 ≤ a ∧ a ≤ 5) (hb : 0 ≤ b ∧ b ≤ 5) : dAt l a b = 1 := by
  obtain ⟨u, rfl⟩ : ∃ u : Nat, a = u := ⟨a.toNat, by omega⟩
  obtain ⟨v, rfl⟩ : ∃ v : Nat, b = v := ⟨b.toNat, by omega⟩
  rw [dAt_nat l u v (by omega)]
  have d := distL_isN l u
  have h0 := (d.sr u (by omega)).2 (by simp [bidA_any h])
  have h1 := d.nbr u v (by omega) (by omega) (by omega) (by omega) h
  have h2 : gI (distL l u) v ≠ 0 := fun e => by
    have := (d.sr v (by omega)).1 e
    simp at this
    omega
  omega
theorem hasI_reach (l : List Adve) (a b : Int) (hb : 0 ≤ b ∧ b ≤ 5) : hasI (reachL l a) b = decide (dAt l a b ≥ 0) := by
  obtain ⟨v, rfl⟩ : ∃ v : Nat, b = v := ⟨b.toNat, by omega⟩
  rw [dAt_def, show inR (v : Int) 0 5 = true by rw [inR_t]; omega]
  simp only [if_true, Int.toNat_natCast]
  rw [Bool.eq_iff_iff, decide_eq_true_eq]
  have hm : hasI (reachL l a) (v : Int) = true ↔ (v : Int) ∈ reachL l a := by
    simp [hasI]
  rw [hm]
  unfold reachL nnT
  rw [List.mem_map]
  constructor
  · rintro ⟨k, hk, e⟩
    obtain rfl : k = v := by omega
    have := (List.mem_filter.1 hk).2
    simpa using this
  · intro h
    exact ⟨v, List.mem_filter.2 ⟨by simp; omega, by simpa using h⟩, rfl⟩
/-! Producers -/
def toldA (n : Name) (x : Adve) : Bool := x.prefs.any fun p => hasPre n p
def told (l : List Adve) (n : Name) (k : Nat) : Bool := match l.find? (orig (k : Int)) with
  | none => false
  | some x => toldA n x
def prodT (l : List Adve) (n : Name) (j : Nat) : List Int := ((List.range j).filter (told l n)).map fun (k : Nat) => (k : Int)
theorem prodT_zero (l : List Adve) (n : Name) : prodT l n 0 = [] := rfl
theorem prodT_yes {l : List Adve} {n : Name} {j : Nat} (h : told l n j = true) : prodT l n (j + 1) = prodT l n j ++ [(j : Int)] := by
  simp [prodT, List.range_succ, List.filter_append, List.filter_cons, h]
theorem prodT_no {l : List Adve} {n : Name} {j : Nat} (h : told l n j = false) : prodT l n (j + 1) = prodT l n j := by
  simp [prodT, List.range_succ, List.filter_append, List.filter_cons, h]
theorem prodT_len (l : List Adve) (n : Name) (j : Nat) : (prodT l n j).length ≤ j := by
  have := List.length_filter_le (told l n) (List.range j)
  simp at this
  simpa [prodT] using this
theorem prodT_mem {l : List Adve} {n : Name} {j : Nat} {x : Int} (h : x ∈ prodT l n j) : 0 ≤ x := by
  simp only [prodT, List.mem_map] at h
  obtain ⟨k, -, rfl⟩ := h
  omega
theorem pf_len {x : Adve} {p : Name} {z : Nat} (hz : x.prefs.length + sumN Name.size x.prefs ≤ z) (h : p ∈ x.prefs) : p.parts.length ≤ z := by
  have := sumN_mem Name.size h
  have h2 : Name.size p = strsSize p.parts := rfl
  unfold strsSize at h2
  omega
noncomputable def nstep (l : List Adve) (a b x : Int) : Int := if 0 ≤ dAt l a x ∧ (b < 0 ∨ dAt l a x < dAt l a b) then x else b
noncomputable def near (l : List Adve) (a : Int) (n : Name) : Int := (prodT l n 6).foldl (nstep l a) (-1)
theorem near_snoc {l : List Adve} {a : Int} {d : List Int} {x : Int} : (d ++ [x]).foldl (nstep l a) (-1) = nstep l a (d.foldl (nstep l a) (-1)) x := by simp
theorem nstep_b {l : List Adve} {a : Int} : ∀ (d : List Int), (∀ x ∈ d, 0 ≤ x) → ∀ b, -1 ≤ b → -1 ≤ d.foldl (nstep l a) b
  | [], _, b, h => h
  | x :: d, hd, b, h => by
    refine nstep_b d (fun y hy => hd y (by simp [hy])) _ ?_
    have := hd x (by simp)
    unfold nstep; split <;> omega
theorem near_b (l : List Adve) (a : Int) (n : Name) : -1 ≤ near l a n := nstep_b _ (fun x hx => prodT_mem hx) _ (by omega)
end Go.Proofs.Ytlibidbpgnpdjaa
