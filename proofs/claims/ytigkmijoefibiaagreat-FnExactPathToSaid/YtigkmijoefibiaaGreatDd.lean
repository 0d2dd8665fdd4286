/- Contracts of functions of the program: no statement of the seat is proved here. Each under the conditions that stand in it. -/
import Derived.Test.YtigkmijoefibiaaGreatDb
import Derived.Test.YtigkmijoefibiaaGreatDc
set_option linter.all false
namespace Go.Proofs.YtigkmijoefibiaaGreat
open Go.Vs Go.Proofs
theorem distL_len (l : List Adve) (a : Int) : (distL l a).length = 6 := (distL_is l a).len
theorem dAtE : ∃ f : List Adve → Int → Int → Int, ∀ l a b, f l a b = if inR b 0 5 then gI (distL l a) b.toNat else -1 := ⟨_, fun _ _ _ => rfl⟩
noncomputable def dAt : List Adve → Int → Int → Int := Classical.choose dAtE
theorem dAt_def (l : List Adve) (a b : Int) : dAt l a b = if inR b 0 5 then gI (distL l a) b.toNat else -1 := Classical.choose_spec dAtE l a b
theorem dAt_b (l : List Adve) (a b : Int) : -1 ≤ dAt l a b ∧ dAt l a b ≤ 6 := by
  rw [dAt_def]
  split
  · rename_i h
    simp [inR_t] at h
    exact (distL_is l a).rng _ (by omega)
  · omega
theorem is102 : FI 102 Tryz.f102 := ⟨⟨Tryz.f102, Tryz.func102, rfl, rfl, rfl, rfl⟩, rfl⟩
set_option maxRecDepth 20000 in
set_option maxHeartbeats 16000000 in
theorem s_Distance (l : List Adve) (a b : Int) (hz : l.length + sumN Adve.size l ≤ 1099511627776) : FO 102 [Al l, I a, I b] [Al l, I a, I b] (I (dAt l a b)) := by
  refine fok envOk mixed is102 ⟨rfl, rfl, ?_⟩
  cases h : inR b 0 5 with
  | false =>
    have f1 : (!inR b 0 5) = true := by simp [h]
    rw [show dAt l a b = -1 by simp [dAt_def, h]]
    (repeat' ((conv => whnf); first | refine stp ?_ | refine Cl.mk (s_l1In _ _ _) ?_ | refine Cl.pre (by simp only [shcLL_ints, shcLL_byts, shcLL_strs, Adve.shcs, Fetc.shcs, Gran.shcs, Mani.shcs, Name.shcs, Read.shcs, Segm.shcs]; rfl) ?_))
    exact Vs.Fin.mk (WkR.refl _) (.refl _)
  | true =>
    have f1 : (!inR b 0 5) = false := by simp [h]
    have hb : 0 ≤ b ∧ b ≤ 5 := by simpa [inR_t] using h
    have hlen := distL_len l a
    have hc := s_Distances l a hz
    obtain ⟨c, rfl⟩ : ∃ c : Nat, b = c := ⟨b.toNat, by omega⟩
    rw [show dAt l a c = gI (distL l a) c by simp [dAt_def, h]]
    generalize distL l a = D at hc hlen ⊢
    (repeat' ((conv => whnf); first | refine stp ?_ | refine Cl.mk (s_l1In _ _ _) ?_ | refine Cl.mk (hc) ?_ | refine El.mk (getG (by omega)) ?_ | refine Cl.pre (by simp only [shcLL_ints, shcLL_byts, shcLL_strs, Adve.shcs, Fetc.shcs, Gran.shcs, Mani.shcs, Name.shcs, Read.shcs, Segm.shcs]; rfl) ?_))
    exact Vs.Fin.mk (WkR.refl _) (.refl _)
theorem is43 : FI 43 Tryz.f43 := ⟨⟨Tryz.f43, Tryz.func43, rfl, rfl, rfl, rfl⟩, rfl⟩
set_option maxRecDepth 20000 in
set_option maxHeartbeats 16000000 in
theorem i_Distance (l : List Adve) (a b : Int) (hz : l.length + sumN Adve.size l ≤ 1099511627776) : FO 43 [Al l, I a, I b] [Al l, I a, I b] (I (dAt l a b)) := by
  refine fok envOk mixed is43 ⟨rfl, rfl, ?_⟩
  cases h : inR b 0 5 with
  | false =>
    have f1 : (!inR b 0 5) = true := by simp [h]
    rw [show dAt l a b = -1 by simp [dAt_def, h]]
    (repeat' ((conv => whnf); first | refine stp ?_ | refine Cl.mk (i_InRange _ _ _) ?_ | refine Cl.pre (by simp only [shcLL_ints, shcLL_byts, shcLL_strs, Adve.shcs, Fetc.shcs, Gran.shcs, Mani.shcs, Name.shcs, Read.shcs, Segm.shcs]; rfl) ?_))
    exact Vs.Fin.mk (WkR.refl _) (.refl _)
  | true =>
    have f1 : (!inR b 0 5) = false := by simp [h]
    have hb : 0 ≤ b ∧ b ≤ 5 := by simpa [inR_t] using h
    have hlen := distL_len l a
    have hc := i_Distances l a hz
    obtain ⟨c, rfl⟩ : ∃ c : Nat, b = c := ⟨b.toNat, by omega⟩
    rw [show dAt l a c = gI (distL l a) c by simp [dAt_def, h]]
    generalize distL l a = D at hc hlen ⊢
    (repeat' ((conv => whnf); first | refine stp ?_ | refine Cl.mk (i_InRange _ _ _) ?_ | refine Cl.mk (hc) ?_ | refine El.mk (getG (by omega)) ?_ | refine Cl.pre (by simp only [shcLL_ints, shcLL_byts, shcLL_strs, Adve.shcs, Fetc.shcs, Gran.shcs, Mani.shcs, Name.shcs, Read.shcs, Segm.shcs]; rfl) ?_))
    exact Vs.Fin.mk (WkR.refl _) (.refl _)
/-- The places at which a number is not negative. -/
def nnT (o : List Int) (j : Nat) : List Int := ((List.range j).filter fun (k : Nat) => decide (0 ≤ gI o k)).map fun (k : Nat) => (k : Int)
theorem nnT_zero (o : List Int) : nnT o 0 = [] := rfl
theorem nnT_yes {o : List Int} {j : Nat} (h : 0 ≤ gI o j) : nnT o (j + 1) = nnT o j ++ [(j : Int)] := by
  simp [nnT, List.range_succ, List.filter_append, List.filter_cons, h]
theorem nnT_no {o : List Int} {j : Nat} (h : ¬ 0 ≤ gI o j) : nnT o (j + 1) = nnT o j := by
  simp [nnT, List.range_succ, List.filter_append, List.filter_cons]; omega
theorem nnT_len (o : List Int) (j : Nat) : (nnT o j).length ≤ j := by
  have := List.length_filter_le (fun (k : Nat) => decide (0 ≤ gI o k)) (List.range j)
  simp at this
  simpa [nnT] using this
def reachL (l : List Adve) (a : Int) : List Int := nnT (distL l a) 6
theorem is100 : FI 100 Tryz.f100 := ⟨⟨Tryz.f100, Tryz.func100, rfl, rfl, rfl, rfl⟩, rfl⟩
set_option maxRecDepth 20000 in
set_option maxHeartbeats 16000000 in
theorem s_Reachable (l : List Adve) (a : Int) (hz : l.length + sumN Adve.size l ≤ 1099511627776) : FO 100 [Al l, I a] [Al l, I a] (Is true (reachL l a)) := by
  refine fok envOk mixed is100 ⟨rfl, rfl, ?_⟩
  have hlen := distL_len l a
  have hc := s_Distances l a hz
  have hR : reachL l a = nnT (distL l a) 6 := rfl
  rw [hR]
  clear hR
  generalize distL l a = D at hc hlen ⊢
  (repeat' ((conv => whnf); first | refine stp ?_ | refine Cl.mk (hc) ?_ | refine Cl.pre (by simp only [shcLL_ints, shcLL_byts, shcLL_strs, Adve.shcs, Fetc.shcs, Gran.shcs, Mani.shcs, Name.shcs, Read.shcs, Segm.shcs]; rfl) ?_))
  refine Lp.mk [.sl 5, .sl 6, .sl 7] (fun m σ => ∃ j, j + m = 6 ∧ σ = [Sa 5 (O (.sl true .non 1 (ints (nnT D j)))), Sa 6 (Is true (D)), Sa 7 (I j)]) (6) _ (WkS.weak _ _) ⟨0, rfl, (by first | rfl | (simp only [zlen, zsum, Nat.zero_mul, Int.add_zero, Int.sub_zero, List.nil_append, markG, nnT_zero]; rfl))⟩ ?_
  rintro m τ ⟨j, hj, rfl⟩
  have hn := nnT_len D j
  refine Nm.mk lenC ?_
  rw [hlen]
  refine Br.dec (fun h => ?_) (fun h => ?_)
  · (repeat' ((conv => whnf); first | refine stp ?_ | refine El.mk (getG (by omega)) ?_ | refine Cl.pre (by simp only [shcLL_ints, shcLL_byts, shcLL_strs, Adve.shcs, Fetc.shcs, Gran.shcs, Mani.shcs, Name.shcs, Read.shcs, Segm.shcs]; rfl) ?_))
    refine Br.mk (fun h4 => ?_) (fun h4 => ?_)
    · (repeat' ((conv => whnf); first | refine stp ?_ ))
      refine Nx.intro (m - 1) (by omega) _ (WkS.weak _ _) ⟨j + 1, by omega, ?_⟩
      (repeat' (first | exact rfl | refine consE ?_ ?_ | refine entE ?_ | refine vI ?_ | refine vS ?_ | refine vT ?_ | refine vB ?_))
      rw [nnT_yes (by simpa using h4)]; simp
    · (repeat' ((conv => whnf); first | refine stp ?_ ))
      refine Nx.intro (m - 1) (by omega) _ (WkS.weak _ _) ⟨j + 1, by omega, ?_⟩
      (repeat' (first | exact rfl | refine consE ?_ ?_ | refine entE ?_ | refine vI ?_ | refine vS ?_ | refine vT ?_ | refine vB ?_))
      rw [nnT_no (by simp at h4; omega)]
  · obtain rfl : j = 6 := by omega
    (repeat' ((conv => whnf); first | refine stp ?_ ))
    exact Vs.Fin.mk (WkR.of (.sl1 rfl .nil)) (.refl _)
theorem is93 : FI 93 Tryz.f93 := ⟨⟨Tryz.f93, Tryz.func93, rfl, rfl, rfl, rfl⟩, rfl⟩
set_option maxRecDepth 20000 in
set_option maxHeartbeats 16000000 in
theorem i_Reachable (l : List Adve) (a : Int) (hz : l.length + sumN Adve.size l ≤ 1099511627776) : FO 93 [Al l, I a] [Al l, I a] (Is true (reachL l a)) := by
  refine fok envOk mixed is93 ⟨rfl, rfl, ?_⟩
  have hlen := distL_len l a
  have hc := i_Distances l a hz
  have hR : reachL l a = nnT (distL l a) 6 := rfl
  rw [hR]
  clear hR
  generalize distL l a = D at hc hlen ⊢
  (repeat' ((conv => whnf); first | refine stp ?_ | refine Cl.mk (hc) ?_ | refine Cl.pre (by simp only [shcLL_ints, shcLL_byts, shcLL_strs, Adve.shcs, Fetc.shcs, Gran.shcs, Mani.shcs, Name.shcs, Read.shcs, Segm.shcs]; rfl) ?_))
  refine Lp.mk [.sl 5, .sl 11, .sl 12, .sl 13] (fun m σ => ∃ j, j + m = 6 ∧ σ = [Sa 5 (O (.sl true .non 1 (ints (nnT D j)))), Sa 11 (Is true (D)), Sa 12 (I 6), Sa 13 (I j)]) (6) _ (WkS.weak _ _) ⟨0, rfl, (by first | rfl | (simp only [zlen, zsum, Nat.zero_mul, Int.add_zero, Int.sub_zero, List.nil_append, markG, nnT_zero, hlen]; rfl))⟩ ?_
  rintro m τ ⟨j, hj, rfl⟩
  have hn := nnT_len D j
  refine Br.dec (fun h => ?_) (fun h => ?_)
  · (repeat' ((conv => whnf); first | refine stp ?_ | refine El.mk (getG (by omega)) ?_ | refine Cl.pre (by simp only [shcLL_ints, shcLL_byts, shcLL_strs, Adve.shcs, Fetc.shcs, Gran.shcs, Mani.shcs, Name.shcs, Read.shcs, Segm.shcs]; rfl) ?_))
    refine Br.mk (fun h4 => ?_) (fun h4 => ?_)
    · (repeat' ((conv => whnf); first | refine stp ?_ ))
      refine Nx.intro (m - 1) (by omega) _ (WkS.weak _ _) ⟨j + 1, by omega, ?_⟩
      (repeat' (first | exact rfl | refine consE ?_ ?_ | refine entE ?_ | refine vI ?_ | refine vS ?_ | refine vT ?_ | refine vB ?_))
      rw [nnT_yes (by simpa using h4)]; simp
    · (repeat' ((conv => whnf); first | refine stp ?_ ))
      refine Nx.intro (m - 1) (by omega) _ (WkS.weak _ _) ⟨j + 1, by omega, ?_⟩
      (repeat' (first | exact rfl | refine consE ?_ ?_ | refine entE ?_ | refine vI ?_ | refine vS ?_ | refine vT ?_ | refine vB ?_))
      rw [nnT_no (by simp at h4; omega)]
  · obtain rfl : j = 6 := by omega
    (repeat' ((conv => whnf); first | refine stp ?_ ))
    exact Vs.Fin.mk (WkR.of (.sl1 rfl .nil)) (.refl _)
end Go.Proofs.YtigkmijoefibiaaGreat
