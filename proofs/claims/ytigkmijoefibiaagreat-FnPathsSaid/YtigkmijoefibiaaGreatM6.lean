/- Contracts of functions of the program: no statement of the seat is proved here. Each under the conditions that stand in it. -/
import Derived.Test.YtigkmijoefibiaaGreatDb
import Derived.Test.YtigkmijoefibiaaGreatDc
import Derived.Test.YtigkmijoefibiaaGreatSb
import Derived.Test.YtigkmijoefibiaaGreatFl
import Derived.Test.YtigkmijoefibiaaGreatFg
set_option linter.all false
namespace Go.Proofs.YtigkmijoefibiaaGreat
open Go.Vs Go.Proofs
theorem distL_len (l : List Adve) (a : Int) : (distL l a).length = 6 := (distL_is l a).len
theorem dAtE : ∃ f : List Adve → Int → Int → Int, ∀ l a b, f l a b = if inR b 0 5 then gI (distL l a) b.toNat else -1 := ⟨_, fun _ _ _ => rfl⟩
noncomputable def dAt : List Adve → Int → Int → Int := Classical.choose dAtE
theorem dAt_def (l : List Adve) (a b : Int) : dAt l a b = if inR b 0 5 then gI (distL l a) b.toNat else -1 := Classical.choose_spec dAtE l a b
theorem dAt_b (l : List Adve) (a b : Int) : -1 ≤ dAt l a b ∧ dAt l a b ≤ 6 := by
  rw [dAt_def]
  split
  · rename_i h
    simp [inR_t] at h
    exact (distL_is l a).rng _ (by omega)
  · omega
theorem is102 : FI 102 Tryz.f102 := ⟨⟨Tryz.f102, Tryz.func102, rfl, rfl, rfl, rfl⟩, rfl⟩
set_option maxRecDepth 20000 in
set_option maxHeartbeats 16000000 in
theorem s_Distance (l : List Adve) (a b : Int) (hz : l.length + sumN Adve.size l ≤ 1099511627776) : FO 102 [Al l, I a, I b] [Al l, I a, I b] (I (dAt l a b)) := by
  refine fok envOk mixed is102 ⟨rfl, rfl, ?_⟩
  cases h : inR b 0 5 with
  | false =>
    have f1 : (!inR b 0 5) = true := by simp [h]
    rw [show dAt l a b = -1 by simp [dAt_def, h]]
    (repeat' ((conv => whnf); first | refine stp ?_ | refine Cl.mk (s_l1In _ _ _) ?_ | refine Cl.pre (by simp only [shcLL_ints, shcLL_byts, shcLL_strs, Adve.shcs, Fetc.shcs, Gran.shcs, Link.shcs, Mani.shcs, Name.shcs, Read.shcs, Segm.shcs, Topo.shcs]; rfl) ?_))
    exact Vs.Fin.mk (WkR.refl _) (.refl _)
  | true =>
    have f1 : (!inR b 0 5) = false := by simp [h]
    have hb : 0 ≤ b ∧ b ≤ 5 := by simpa [inR_t] using h
    have hlen := distL_len l a
    have hc := s_Distances l a hz
    obtain ⟨c, rfl⟩ : ∃ c : Nat, b = c := ⟨b.toNat, by omega⟩
    rw [show dAt l a c = gI (distL l a) c by simp [dAt_def, h]]
    generalize distL l a = D at hc hlen ⊢
    (repeat' ((conv => whnf); first | refine stp ?_ | refine Cl.mk (s_l1In _ _ _) ?_ | refine Cl.mk (hc) ?_ | refine El.mk (getG (by omega)) ?_ | refine Cl.pre (by simp only [shcLL_ints, shcLL_byts, shcLL_strs, Adve.shcs, Fetc.shcs, Gran.shcs, Link.shcs, Mani.shcs, Name.shcs, Read.shcs, Segm.shcs, Topo.shcs]; rfl) ?_))
    exact Vs.Fin.mk (WkR.refl _) (.refl _)
theorem is43 : FI 43 Tryz.f43 := ⟨⟨Tryz.f43, Tryz.func43, rfl, rfl, rfl, rfl⟩, rfl⟩
set_option maxRecDepth 20000 in
set_option maxHeartbeats 16000000 in
theorem i_Distance (l : List Adve) (a b : Int) (hz : l.length + sumN Adve.size l ≤ 1099511627776) : FO 43 [Al l, I a, I b] [Al l, I a, I b] (I (dAt l a b)) := by
  refine fok envOk mixed is43 ⟨rfl, rfl, ?_⟩
  cases h : inR b 0 5 with
  | false =>
    have f1 : (!inR b 0 5) = true := by simp [h]
    rw [show dAt l a b = -1 by simp [dAt_def, h]]
    (repeat' ((conv => whnf); first | refine stp ?_ | refine Cl.mk (i_InRange _ _ _) ?_ | refine Cl.pre (by simp only [shcLL_ints, shcLL_byts, shcLL_strs, Adve.shcs, Fetc.shcs, Gran.shcs, Link.shcs, Mani.shcs, Name.shcs, Read.shcs, Segm.shcs, Topo.shcs]; rfl) ?_))
    exact Vs.Fin.mk (WkR.refl _) (.refl _)
  | true =>
    have f1 : (!inR b 0 5) = false := by simp [h]
    have hb : 0 ≤ b ∧ b ≤ 5 := by simpa [inR_t] using h
    have hlen := distL_len l a
    have hc := i_Distances l a hz
    obtain ⟨c, rfl⟩ : ∃ c : Nat, b = c := ⟨b.toNat, by omega⟩
    rw [show dAt l a c = gI (distL l a) c by simp [dAt_def, h]]
    generalize distL l a = D at hc hlen ⊢
    (repeat' ((conv => whnf); first | refine stp ?_ | refine Cl.mk (i_InRange _ _ _) ?_ | refine Cl.mk (hc) ?_ | refine El.mk (getG (by omega)) ?_ | refine Cl.pre (by simp only [shcLL_ints, shcLL_byts, shcLL_strs, Adve.shcs, Fetc.shcs, Gran.shcs, Link.shcs, Mani.shcs, Name.shcs, Read.shcs, Segm.shcs, Topo.shcs]; rfl) ?_))
    exact Vs.Fin.mk (WkR.refl _) (.refl _)
/-- The places at which a number is not negative. -/
def nnT (o : List Int) (j : Nat) : List Int := ((List.range j).filter fun (k : Nat) => decide (0 ≤ gI o k)).map fun (k : Nat) => (k : Int)
theorem nnT_zero (o : List Int) : nnT o 0 = [] := rfl
theorem nnT_yes {o : List Int} {j : Nat} (h : 0 ≤ gI o j) : nnT o (j + 1) = nnT o j ++ [(j : Int)] := by
  simp [nnT, List.range_succ, List.filter_append, List.filter_cons, h]
theorem nnT_no {o : List Int} {j : Nat} (h : ¬ 0 ≤ gI o j) : nnT o (j + 1) = nnT o j := by
  simp [nnT, List.range_succ, List.filter_append, List.filter_cons]; omega
theorem nnT_len (o : List Int) (j : Nat) : (nnT o j).length ≤ j := by
  have := List.length_filter_le (fun (k : Nat) => decide (0 ≤ gI o k)) (List.range j)
  simp at this
  simpa [nnT] using this
def reachL (l : List Adve) (a : Int) : List Int := nnT (distL l a) 6
theorem is100 : FI 100 Tryz.f100 := ⟨⟨Tryz.f100, Tryz.func100, rfl, rfl, rfl, rfl⟩, rfl⟩
set_option maxRecDepth 20000 in
set_option maxHeartbeats 16000000 in
theorem s_Reachable (l : List Adve) (a : Int) (hz : l.length + sumN Adve.size l ≤ 1099511627776) : FO 100 [Al l, I a] [Al l, I a] (Is true (reachL l a)) := by
  refine fok envOk mixed is100 ⟨rfl, rfl, ?_⟩
  have hlen := distL_len l a
  have hc := s_Distances l a hz
  have hR : reachL l a = nnT (distL l a) 6 := rfl
  rw [hR]
  clear hR
  generalize distL l a = D at hc hlen ⊢
  (repeat' ((conv => whnf); first | refine stp ?_ | refine Cl.mk (hc) ?_ | refine Cl.pre (by simp only [shcLL_ints, shcLL_byts, shcLL_strs, Adve.shcs, Fetc.shcs, Gran.shcs, Link.shcs, Mani.shcs, Name.shcs, Read.shcs, Segm.shcs, Topo.shcs]; rfl) ?_))
  refine Lp.mk [.sl 5, .sl 6, .sl 7] (fun m σ => ∃ j, j + m = 6 ∧ σ = [Sa 5 (O (.sl true .non 1 (ints (nnT D j)))), Sa 6 (Is true (D)), Sa 7 (I j)]) (6) _ (WkS.weak _ _) ⟨0, rfl, (by first | rfl | (simp only [zlen, zsum, Nat.zero_mul, Int.add_zero, Int.sub_zero, List.nil_append, markG, nnT_zero]; rfl))⟩ ?_
  rintro m τ ⟨j, hj, rfl⟩
  have hn := nnT_len D j
  refine Nm.mk lenC ?_
  rw [hlen]
  refine Br.dec (fun h => ?_) (fun h => ?_)
  · (repeat' ((conv => whnf); first | refine stp ?_ | refine El.mk (getG (by omega)) ?_ | refine Cl.pre (by simp only [shcLL_ints, shcLL_byts, shcLL_strs, Adve.shcs, Fetc.shcs, Gran.shcs, Link.shcs, Mani.shcs, Name.shcs, Read.shcs, Segm.shcs, Topo.shcs]; rfl) ?_))
    refine Br.mk (fun h4 => ?_) (fun h4 => ?_)
    · (repeat' ((conv => whnf); first | refine stp ?_ ))
      refine Nx.intro (m - 1) (by omega) _ (WkS.weak _ _) ⟨j + 1, by omega, ?_⟩
      (repeat' (first | exact rfl | refine consE ?_ ?_ | refine entE ?_ | refine vI ?_ | refine vS ?_ | refine vT ?_ | refine vB ?_))
      rw [nnT_yes (by simpa using h4)]; simp
    · (repeat' ((conv => whnf); first | refine stp ?_ ))
      refine Nx.intro (m - 1) (by omega) _ (WkS.weak _ _) ⟨j + 1, by omega, ?_⟩
      (repeat' (first | exact rfl | refine consE ?_ ?_ | refine entE ?_ | refine vI ?_ | refine vS ?_ | refine vT ?_ | refine vB ?_))
      rw [nnT_no (by simp at h4; omega)]
  · obtain rfl : j = 6 := by omega
    (repeat' ((conv => whnf); first | refine stp ?_ ))
    exact Vs.Fin.mk (WkR.of (.sl1 rfl .nil)) (.refl _)
theorem is93 : FI 93 Tryz.f93 := ⟨⟨Tryz.f93, Tryz.func93, rfl, rfl, rfl, rfl⟩, rfl⟩
set_option maxRecDepth 20000 in
set_option maxHeartbeats 16000000 in
theorem i_Reachable (l : List Adve) (a : Int) (hz : l.length + sumN Adve.size l ≤ 1099511627776) : FO 93 [Al l, I a] [Al l, I a] (Is true (reachL l a)) := by
  refine fok envOk mixed is93 ⟨rfl, rfl, ?_⟩
  have hlen := distL_len l a
  have hc := i_Distances l a hz
  have hR : reachL l a = nnT (distL l a) 6 := rfl
  rw [hR]
  clear hR
  generalize distL l a = D at hc hlen ⊢
  (repeat' ((conv => whnf); first | refine stp ?_ | refine Cl.mk (hc) ?_ | refine Cl.pre (by simp only [shcLL_ints, shcLL_byts, shcLL_strs, Adve.shcs, Fetc.shcs, Gran.shcs, Link.shcs, Mani.shcs, Name.shcs, Read.shcs, Segm.shcs, Topo.shcs]; rfl) ?_))
  refine Lp.mk [.sl 5, .sl 11, .sl 12, .sl 13] (fun m σ => ∃ j, j + m = 6 ∧ σ = [Sa 5 (O (.sl true .non 1 (ints (nnT D j)))), Sa 11 (Is true (D)), Sa 12 (I 6), Sa 13 (I j)]) (6) _ (WkS.weak _ _) ⟨0, rfl, (by first | rfl | (simp only [zlen, zsum, Nat.zero_mul, Int.add_zero, Int.sub_zero, List.nil_append, markG, nnT_zero, hlen]; rfl))⟩ ?_
  rintro m τ ⟨j, hj, rfl⟩
  have hn := nnT_len D j
  refine Br.dec (fun h => ?_) (fun h => ?_)
  · (repeat' ((conv => whnf); first | refine stp ?_ | refine El.mk (getG (by omega)) ?_ | refine Cl.pre (by simp only [shcLL_ints, shcLL_byts, shcLL_strs, Adve.shcs, Fetc.shcs, Gran.shcs, Link.shcs, Mani.shcs, Name.shcs, Read.shcs, Segm.shcs, Topo.shcs]; rfl) ?_))
    refine Br.mk (fun h4 => ?_) (fun h4 => ?_)
    · (repeat' ((conv => whnf); first | refine stp ?_ ))
      refine Nx.intro (m - 1) (by omega) _ (WkS.weak _ _) ⟨j + 1, by omega, ?_⟩
      (repeat' (first | exact rfl | refine consE ?_ ?_ | refine entE ?_ | refine vI ?_ | refine vS ?_ | refine vT ?_ | refine vB ?_))
      rw [nnT_yes (by simpa using h4)]; simp
    · (repeat' ((conv => whnf); first | refine stp ?_ ))
      refine Nx.intro (m - 1) (by omega) _ (WkS.weak _ _) ⟨j + 1, by omega, ?_⟩
      (repeat' (first | exact rfl | refine consE ?_ ?_ | refine entE ?_ | refine vI ?_ | refine vS ?_ | refine vT ?_ | refine vB ?_))
      rw [nnT_no (by simp at h4; omega)]
  · obtain rfl : j = 6 := by omega
    (repeat' ((conv => whnf); first | refine stp ?_ ))
    exact Vs.Fin.mk (WkR.of (.sl1 rfl .nil)) (.refl _)
def eccT (o : List Int) : Nat → Int
  | 0 => -1
  | j + 1 => ma (eccT o j) (gI o j)
def eccL (l : List Adve) (a : Int) : Int := eccT (distL l a) 6
theorem bidA_symm (l : List Adve) (a b : Int) : bidA l a b = bidA l b a := by simp [bidA, Bool.and_comm]
theorem nbrA_any {l : List Adve} {a b : Int} (h : nbrA l a b = true) : l.any (orig a) = true := by
  unfold nbrA at h
  rw [← find_any]
  cases hf : l.find? (orig a) with
  | none => rw [hf] at h; simp at h
  | some x => rfl
theorem clo_zero {l : List Adve} {a b : Int} {x : Nat} (hx : x < 6) (hd : dAt l a b = 0) (hb : bidA l a (x : Int) = true) : dAt l x b ≠ -1 := by
  rw [dAt_def] at hd ⊢
  split at hd
  · rename_i hr
    have hr2 : 0 ≤ b ∧ b ≤ 5 := by simpa [inR_t] using hr
    obtain ⟨c, rfl⟩ : ∃ c : Nat, b = c := ⟨b.toNat, by omega⟩
    simp only [Int.toNat_natCast] at hd ⊢
    have hs := ((distL_is l a).sr c (by omega)).1 hd
    simp only [srcA, Bool.and_eq_true, beq_iff_eq] at hs
    obtain ⟨rfl, -⟩ := hs
    have hb2 : bidA l (x : Int) (c : Int) = true := by rw [bidA_symm]; exact hb
    have hn : nbrA l (x : Int) (c : Int) = true := by simp [bidA] at hb2; exact hb2.1
    have h0 : gI (distL l x) x = 0 := ((distL_is l x).sr x hx).2 (by simp [srcA, nbrA_any hn])
    have h1 := (distL_is l x).nbr x c hx (by omega) (by omega) (by omega) hb2
    simp only [hr, if_true]
    omega
  · omega
noncomputable def cloB (l : List Adve) (a b : Int) (x : Nat) : Bool := decide (0 < dAt l a b) && (bidA l a (x : Int) && decide (dAt l x b = dAt l a b - 1))
noncomputable def cloT (l : List Adve) (a b : Int) (j : Nat) : List Int := ((List.range j).filter (cloB l a b)).map fun (k : Nat) => (k : Int)
theorem cloT_zero (l : List Adve) (a b : Int) : cloT l a b 0 = [] := rfl
theorem cloT_yes {l : List Adve} {a b : Int} {j : Nat} (h : cloB l a b j = true) : cloT l a b (j + 1) = cloT l a b j ++ [(j : Int)] := by
  simp [cloT, List.range_succ, List.filter_append, List.filter_cons, h]
theorem cloT_no {l : List Adve} {a b : Int} {j : Nat} (h : cloB l a b j = false) : cloT l a b (j + 1) = cloT l a b j := by
  simp [cloT, List.range_succ, List.filter_append, List.filter_cons, h]
theorem cloT_len (l : List Adve) (a b : Int) (j : Nat) : (cloT l a b j).length ≤ j := by
  have := List.length_filter_le (cloB l a b) (List.range j)
  simp at this
  simpa [cloT] using this
theorem cloT_none {l : List Adve} {a b : Int} (h : ¬ 0 < dAt l a b) : ∀ j, cloT l a b j = []
  | 0 => rfl
  | j + 1 => by rw [cloT_no (by simp [cloB, h]), cloT_none h j]
theorem is101 : FI 101 Tryz.f101 := ⟨⟨Tryz.f101, Tryz.func101, rfl, rfl, rfl, rfl⟩, rfl⟩
set_option maxRecDepth 20000 in
set_option maxHeartbeats 16000000 in
theorem s_Closer (l : List Adve) (a b : Int) (hz : l.length + sumN Adve.size l ≤ 1099511627776) : FO 101 [Al l, I a, I b] [Al l, I a, I b] (Is true (cloT l a b 6)) := by
  refine fok envOk mixed is101 ⟨rfl, rfl, ?_⟩
  have hdb := dAt_b l a b
  (repeat' ((conv => whnf); first | refine stp ?_ | refine Cl.mk (s_Distance l a b hz) ?_ | refine Cl.pre (by simp only [shcLL_ints, shcLL_byts, shcLL_strs, Adve.shcs, Fetc.shcs, Gran.shcs, Link.shcs, Mani.shcs, Name.shcs, Read.shcs, Segm.shcs, Topo.shcs]; rfl) ?_))
  refine Lp.mk [.sl 0, .sl 1, .sl 2, .sl 7, .sl 8, .sl 9] (fun m σ => ∃ j, j + m = 6 ∧ σ = [Sa 0 (Al l), Sa 1 (I a), Sa 2 (I b), Sa 7 (O (.sl true .non 1 (ints (cloT l a b j)))), Sa 8 (I (dAt l a b)), Sa 9 (I j)]) (6) _ (WkS.weak _ _) ⟨0, rfl, (by first | rfl | (simp only [zlen, zsum, Nat.zero_mul, Int.add_zero, Int.sub_zero, List.nil_append, markG, cloT_zero]; rfl))⟩ ?_
  rintro m τ ⟨j, hj, rfl⟩
  have hcl := cloT_len l a b j
  refine Br.mk (fun h => ?_) (fun h => ?_)
  · (repeat' ((conv => whnf); first | refine stp ?_ ))
    refine Br.mk (fun h1 => ?_) (fun h1 => ?_)
    · (repeat' ((conv => whnf); first | refine stp ?_ | refine Cl.mk (s_Bid l a j hz) ?_ | refine Cl.pre (by simp only [shcLL_ints, shcLL_byts, shcLL_strs, Adve.shcs, Fetc.shcs, Gran.shcs, Link.shcs, Mani.shcs, Name.shcs, Read.shcs, Segm.shcs, Topo.shcs]; rfl) ?_))
      refine Br.mk (fun h2 => ?_) (fun h2 => ?_)
      · (repeat' ((conv => whnf); first | refine stp ?_ | refine Cl.mk (s_Distance l j b hz) ?_ | refine Cl.pre (by simp only [shcLL_ints, shcLL_byts, shcLL_strs, Adve.shcs, Fetc.shcs, Gran.shcs, Link.shcs, Mani.shcs, Name.shcs, Read.shcs, Segm.shcs, Topo.shcs]; rfl) ?_))
        refine Br.mk (fun h3 => ?_) (fun h3 => ?_)
        · (repeat' ((conv => whnf); first | refine stp ?_ ))
          refine Nx.intro (m - 1) (by simp at h; omega) _ (WkS.weak _ _) ⟨j + 1, by simp at h; omega, ?_⟩
          (repeat' (first | exact rfl | refine consE ?_ ?_ | refine entE ?_ | refine vI ?_ | refine vS ?_ | refine vT ?_ | refine vB ?_))
          rw [cloT_yes (by simp_all [cloB])]; simp
        · (repeat' ((conv => whnf); first | refine stp ?_ ))
          refine Nx.intro (m - 1) (by simp at h; omega) _ (WkS.weak _ _) ⟨j + 1, by simp at h; omega, ?_⟩
          (repeat' (first | exact rfl | refine consE ?_ ?_ | refine entE ?_ | refine vI ?_ | refine vS ?_ | refine vT ?_ | refine vB ?_))
          rw [cloT_no (by simp_all [cloB])]
      · (repeat' ((conv => whnf); first | refine stp ?_ ))
        refine Nx.intro (m - 1) (by simp at h; omega) _ (WkS.weak _ _) ⟨j + 1, by simp at h; omega, ?_⟩
        (repeat' (first | exact rfl | refine consE ?_ ?_ | refine entE ?_ | refine vI ?_ | refine vS ?_ | refine vT ?_ | refine vB ?_))
        rw [cloT_no (by simp_all [cloB])]
    · (repeat' ((conv => whnf); first | refine stp ?_ ))
      have hn : ¬ 0 < dAt l a b := by simpa using h1
      refine Vs.Fin.mk (WkR.of (.sl1 ?_ .nil)) (.refl _)
      rw [cloT_none hn, cloT_none hn]
  · obtain rfl : j = 6 := by simp at h; omega
    (repeat' ((conv => whnf); first | refine stp ?_ ))
    exact Vs.Fin.mk (WkR.of (.sl1 rfl .nil)) (.refl _)
theorem is94 : FI 94 Tryz.f94 := ⟨⟨Tryz.f94, Tryz.func94, rfl, rfl, rfl, rfl⟩, rfl⟩
set_option maxRecDepth 20000 in
set_option maxHeartbeats 16000000 in
theorem i_Closer (l : List Adve) (a b : Int) (hz : l.length + sumN Adve.size l ≤ 1099511627776) : FO 94 [Al l, I a, I b] [Al l, I a, I b] (Is true (cloT l a b 6)) := by
  refine fok envOk mixed is94 ⟨rfl, rfl, ?_⟩
  have hdb := dAt_b l a b
  (repeat' ((conv => whnf); first | refine stp ?_ | refine Cl.mk (i_Distance l a b hz) ?_ | refine Cl.pre (by simp only [shcLL_ints, shcLL_byts, shcLL_strs, Adve.shcs, Fetc.shcs, Gran.shcs, Link.shcs, Mani.shcs, Name.shcs, Read.shcs, Segm.shcs, Topo.shcs]; rfl) ?_))
  refine Lp.mk [.sl 0, .sl 1, .sl 2, .sl 7, .sl 8, .sl 15] (fun m σ => ∃ j, j + m = 6 ∧ σ = [Sa 0 (Al l), Sa 1 (I a), Sa 2 (I b), Sa 7 (I (dAt l a b)), Sa 8 (O (.sl true .non 1 (ints (cloT l a b j)))), Sa 15 (I j)]) (6) _ (WkS.weak _ _) ⟨0, rfl, (by first | rfl | (simp only [zlen, zsum, Nat.zero_mul, Int.add_zero, Int.sub_zero, List.nil_append, markG, cloT_zero]; rfl))⟩ ?_
  rintro m τ ⟨j, hj, rfl⟩
  have hcl := cloT_len l a b j
  refine Br.mk (fun h => ?_) (fun h => ?_)
  · (repeat' ((conv => whnf); first | refine stp ?_ ))
    refine Br.mk (fun h1 => ?_) (fun h1 => ?_)
    · (repeat' ((conv => whnf); first | refine stp ?_ | refine Cl.mk (i_Bid l a j hz) ?_ | refine Cl.pre (by simp only [shcLL_ints, shcLL_byts, shcLL_strs, Adve.shcs, Fetc.shcs, Gran.shcs, Link.shcs, Mani.shcs, Name.shcs, Read.shcs, Segm.shcs, Topo.shcs]; rfl) ?_))
      refine Br.mk (fun h2 => ?_) (fun h2 => ?_)
      · (repeat' ((conv => whnf); first | refine stp ?_ | refine Cl.mk (i_Distance l j b hz) ?_ | refine Cl.pre (by simp only [shcLL_ints, shcLL_byts, shcLL_strs, Adve.shcs, Fetc.shcs, Gran.shcs, Link.shcs, Mani.shcs, Name.shcs, Read.shcs, Segm.shcs, Topo.shcs]; rfl) ?_))
        refine Br.mk (fun h3 => ?_) (fun h3 => ?_)
        · (repeat' ((conv => whnf); first | refine stp ?_ ))
          refine Nx.intro (m - 1) (by simp at h; omega) _ (WkS.weak _ _) ⟨j + 1, by simp at h; omega, ?_⟩
          (repeat' (first | exact rfl | refine consE ?_ ?_ | refine entE ?_ | refine vI ?_ | refine vS ?_ | refine vT ?_ | refine vB ?_))
          have hz0 : dAt l a b ≠ 0 := fun h0 => clo_zero (x := j) (by simp at h; omega) h0 h2 (by simp at h3; omega)
          rw [cloT_yes (by simp at h1 h3; simp [cloB, h2]; omega)]; simp
        · (repeat' ((conv => whnf); first | refine stp ?_ ))
          refine Nx.intro (m - 1) (by simp at h; omega) _ (WkS.weak _ _) ⟨j + 1, by simp at h; omega, ?_⟩
          (repeat' (first | exact rfl | refine consE ?_ ?_ | refine entE ?_ | refine vI ?_ | refine vS ?_ | refine vT ?_ | refine vB ?_))
          rw [cloT_no (by simp_all [cloB])]
      · (repeat' ((conv => whnf); first | refine stp ?_ ))
        refine Nx.intro (m - 1) (by simp at h; omega) _ (WkS.weak _ _) ⟨j + 1, by simp at h; omega, ?_⟩
        (repeat' (first | exact rfl | refine consE ?_ ?_ | refine entE ?_ | refine vI ?_ | refine vS ?_ | refine vT ?_ | refine vB ?_))
        rw [cloT_no (by simp_all [cloB])]
    · (repeat' ((conv => whnf); first | refine stp ?_ ))
      refine Nx.intro (m - 1) (by simp at h; omega) _ (WkS.weak _ _) ⟨j + 1, by simp at h; omega, ?_⟩
      (repeat' (first | exact rfl | refine consE ?_ ?_ | refine entE ?_ | refine vI ?_ | refine vS ?_ | refine vT ?_ | refine vB ?_))
      rw [cloT_no (by simp at h1; simp [cloB]; omega)]
  · obtain rfl : j = 6 := by simp at h; omega
    (repeat' ((conv => whnf); first | refine stp ?_ ))
    exact Vs.Fin.mk (WkR.of (.sl1 rfl .nil)) (.refl _)
/-! Distances are symmetric -/
theorem low_le : ∀ (n : Nat) (l : List Int), (∀ k : Nat, k < n → (k : Int) ∈ l) → n ≤ l.length
  | 0, _, _ => Nat.zero_le _
  | n + 1, l, h => by
    have h1 := low_le n (l.erase (n : Int)) (fun k hk => (List.mem_erase_of_ne (by omega)).2 (h k (by omega)))
    have h2 := List.length_erase_of_mem (h n (by omega))
    have h3 : 0 < l.length := List.length_pos_of_mem (h n (by omega))
    omega
theorem IsD.low {adj : Nat → Nat → Bool} {src : Nat → Bool} {o : List Int} (h : IsD adj src o) : ∀ (k v : Nat), v < 6 → gI o v = k → ∀ j : Nat, j ≤ k → (j : Int) ∈ o
  | k, v, hv, e, j, hj => by
    have hm : gI o v ∈ o := by
      have hl := h.len
      unfold gI
      rw [List.getD_eq_getElem?_getD, List.getElem?_eq_getElem (by omega)]
      exact List.getElem_mem _
    by_cases hjk : j = k
    · subst hjk; rw [← e]; exact hm
    · obtain ⟨k', rfl⟩ : ∃ k', k = k' + 1 := ⟨k - 1, by omega⟩
      obtain ⟨u, hu, -, he⟩ := h.pred v hv (by omega)
      exact IsD.low h k' u hu (by omega) j (by omega)
theorem IsD.le5 {adj : Nat → Nat → Bool} {src : Nat → Bool} {o : List Int} (h : IsD adj src o) (v : Nat) (hv : v < 6) : gI o v ≤ 5 := by
  rcases Int.lt_or_le (gI o v) 0 with h0 | h0
  · omega
  obtain ⟨k, hk⟩ : ∃ k : Nat, gI o v = k := ⟨(gI o v).toNat, by omega⟩
  have := low_le (k + 1) o (fun j hj => IsD.low h k v hv hk j (by omega))
  have := h.len
  omega
section
variable {adj : Nat → Nat → Bool} {fnd : Nat → Bool} {D : Nat → List Int}
/-- The step to a neighbor. -/
theorem via (hD : ∀ a, a < 6 → IsD adj (fun v => (v == a) && fnd a) (D a)) (hs : ∀ u v, adj u v = adj v u) (hf : ∀ u v, adj u v = true → fnd u = true) {v w : Nat} (hv : v < 6) (hw : w < 6) (ha : adj v w = true) :
    ∀ (j x : Nat), x < 6 → gI (D w) x = j → 0 ≤ gI (D v) x ∧ gI (D v) x ≤ j + 1
  | j, x, hx, e => by
    have dv := hD v hv
    have dw := hD w hw
    by_cases hj : j = 0
    · subst hj
      have hxw := (dw.sr x hx).1 (by simpa using e)
      simp only [Bool.and_eq_true, beq_iff_eq] at hxw
      obtain ⟨rfl, -⟩ := hxw
      have h0 := (dv.sr v hv).2 (by simp [hf v x ha])
      have := dv.nbr v x hv hx (by omega) (by omega) ha
      omega
    · obtain ⟨k, rfl⟩ : ∃ k, j = k + 1 := ⟨j - 1, by omega⟩
      obtain ⟨u, hu, ha2, he⟩ := dw.pred x hx (by omega)
      have ih := via hD hs hf hv hw ha k u hu (by omega)
      have := dv.le5 u hu
      have := dv.nbr u x hu hx ih.1 (by omega) ha2
      omega
theorem symle (hD : ∀ a, a < 6 → IsD adj (fun v => (v == a) && fnd a) (D a)) (hs : ∀ u v, adj u v = adj v u) (hf : ∀ u v, adj u v = true → fnd u = true) :
    ∀ (k u v : Nat), u < 6 → v < 6 → gI (D u) v = k → 0 ≤ gI (D v) u ∧ gI (D v) u ≤ k
  | k, u, v, hu, hv, e => by
    have du := hD u hu
    by_cases hk : k = 0
    · subst hk
      have hxw := (du.sr v hv).1 (by simpa using e)
      simp only [Bool.and_eq_true, beq_iff_eq] at hxw
      obtain ⟨rfl, -⟩ := hxw
      omega
    · obtain ⟨j, rfl⟩ : ∃ j, k = j + 1 := ⟨k - 1, by omega⟩
      obtain ⟨w, hw, ha, he⟩ := du.pred v hv (by omega)
      have ih := symle hD hs hf j u w hu hw (by omega)
      obtain ⟨i, hi⟩ : ∃ i : Nat, gI (D w) u = i := ⟨(gI (D w) u).toNat, by omega⟩
      have := via hD hs hf hv hw (by rw [hs]; exact ha) i u hu hi
      omega
theorem symD (hD : ∀ a, a < 6 → IsD adj (fun v => (v == a) && fnd a) (D a)) (hs : ∀ u v, adj u v = adj v u) (hf : ∀ u v, adj u v = true → fnd u = true) (u v : Nat) (hu : u < 6) (hv : v < 6) : gI (D u) v = gI (D v) u := by
  have r1 := (hD u hu).rng v hv
  have r2 := (hD v hv).rng u hu
  have h1 : 0 ≤ gI (D u) v → 0 ≤ gI (D v) u ∧ gI (D v) u ≤ gI (D u) v := fun h => by
    have := symle hD hs hf (gI (D u) v).toNat u v hu hv (by omega)
    omega
  have h2 : 0 ≤ gI (D v) u → 0 ≤ gI (D u) v ∧ gI (D u) v ≤ gI (D v) u := fun h => by
    have := symle hD hs hf (gI (D v) u).toNat v u hv hu (by omega)
    omega
  by_cases h : 0 ≤ gI (D u) v
  · have := h1 h
    have := h2 (by omega)
    omega
  · by_cases h' : 0 ≤ gI (D v) u
    · have := h2 h'
      omega
    · omega
end
theorem bidA_sym (l : List Adve) (a b : Int) : bidA l a b = bidA l b a := by unfold bidA; rw [Bool.and_comm]
theorem bidA_any {l : List Adve} {a b : Int} (h : bidA l a b = true) : l.any (orig a) = true := by
  unfold bidA nbrA at h
  rw [← find_any]
  cases hf : l.find? (orig a) with
  | none => rw [hf] at h; simp at h
  | some x => rfl
theorem distL_isN (l : List Adve) (a : Nat) : IsD (adjA l) (fun v => (v == a) && l.any (orig (a : Int))) (distL l (a : Int)) := by
  have e : srcA l (a : Int) = fun v => (v == a) && l.any (orig (a : Int)) := by
    funext v
    unfold srcA
    congr 1
    exact Bool.eq_iff_iff.2 (by simp only [beq_iff_eq]; omega)
  have := distL_is l (a : Int)
  rw [e] at this
  exact this
theorem dAt_nat (l : List Adve) (u v : Nat) (hv : v < 6) : dAt l (u : Int) (v : Int) = gI (distL l (u : Int)) v := by
  rw [dAt_def, show inR (v : Int) 0 5 = true by rw [inR_t]; omega]; rfl
theorem dAt_sym {l : List Adve} {a b : Int} (ha : 0 ≤ a ∧ a ≤ 5) (hb : 0 ≤ b ∧ b ≤ 5) : dAt l a b = dAt l b a := by
  obtain ⟨u, rfl⟩ : ∃ u : Nat, a = u := ⟨a.toNat, by omega⟩
  obtain ⟨v, rfl⟩ : ∃ v : Nat, b = v := ⟨b.toNat, by omega⟩
  rw [dAt_nat l u v (by omega), dAt_nat l v u (by omega)]
  exact symD (D := fun a => distL l (a : Int)) (fnd := fun a => l.any (orig (a : Int))) (fun a _ => distL_isN l a) (fun u v => bidA_sym l _ _) (fun u v h => bidA_any h) u v (by omega) (by omega)
theorem dAt_out {l : List Adve} {a b : Int} (ha : ¬ (0 ≤ a ∧ a ≤ 5)) : dAt l a b = -1 := by
  rw [dAt_def]
  split
  · rename_i h
    rw [inR_t] at h
    have d := distL_is l a
    have r := d.rng b.toNat (by omega)
    by_cases h0 : 0 ≤ gI (distL l a) b.toNat
    · exfalso
      obtain ⟨k, hk⟩ : ∃ k : Nat, gI (distL l a) b.toNat = k := ⟨(gI (distL l a) b.toNat).toNat, by omega⟩
      have hm := IsD.low d k b.toNat (by omega) hk 0 (by omega)
      obtain ⟨i, hi, he⟩ := List.mem_iff_getElem.1 hm
      have hl := d.len
      have := (d.sr i (by omega)).1 (by unfold gI; rw [List.getD_eq_getElem?_getD, List.getElem?_eq_getElem hi, he]; rfl)
      simp only [srcA, Bool.and_eq_true, beq_iff_eq] at this
      omega
    · omega
  · rfl
theorem clo_pos {l : List Adve} {a b : Int} (h : 0 < dAt l a b) : cloT l a b 6 ≠ [] := by
  have ha : 0 ≤ a ∧ a ≤ 5 := Classical.byContradiction fun hn => by rw [dAt_out hn] at h; omega
  have hb : 0 ≤ b ∧ b ≤ 5 := Classical.byContradiction fun hn => by
    rw [dAt_def, if_neg (by rw [inR_t]; exact hn)] at h; omega
  have hsy := dAt_sym (l := l) ha hb
  obtain ⟨u, rfl⟩ : ∃ u : Nat, a = u := ⟨a.toNat, by omega⟩
  obtain ⟨v, rfl⟩ : ∃ v : Nat, b = v := ⟨b.toNat, by omega⟩
  have e := dAt_nat l v u (by omega)
  obtain ⟨w, hw, h1, h2⟩ := (distL_is l v).pred u (by omega) (by omega)
  have e2 := dAt_nat l v w hw
  have hs2 := dAt_sym (l := l) (a := w) (b := v) (by omega) hb
  have : (w : Int) ∈ cloT l u v 6 := by
    refine List.mem_map.2 ⟨w, List.mem_filter.2 ⟨by simpa using hw, ?_⟩, rfl⟩
    have h1' : bidA l (u : Int) (w : Int) = true := by rw [bidA_sym]; exact h1
    unfold cloB
    rw [h1', decide_eq_true h, decide_eq_true (show dAt l w v = dAt l u v - 1 by omega)]; rfl
  intro hn; rw [hn] at this; simp at this
theorem clo_neg {l : List Adve} {a b : Int} (h : ¬ 0 < dAt l a b) : cloT l a b 6 = [] := by
  unfold cloT
  rw [List.filter_eq_nil_iff.2]
  · rfl
  · intro x _
    unfold cloB
    rw [decide_eq_false h]; simp
theorem clo_mem {l : List Adve} {a b x : Int} (h : x ∈ cloT l a b 6) : bidA l a x = true ∧ dAt l x b = dAt l a b - 1 := by
  obtain ⟨k, hk, rfl⟩ := List.mem_map.1 h
  have := (List.mem_filter.1 hk).2
  unfold cloB at this
  simp only [Bool.and_eq_true, decide_eq_true_eq] at this
  exact this.2
theorem bid_one {l : List Adve} {a b : Int} (h : bidA l a b = true) (hne : a ≠ b) (ha : 0 ≤ a ∧ a ≤ 5) (hb : 0 ≤ b ∧ b ≤ 5) : dAt l a b = 1 := by
  obtain ⟨u, rfl⟩ : ∃ u : Nat, a = u := ⟨a.toNat, by omega⟩
  obtain ⟨v, rfl⟩ : ∃ v : Nat, b = v := ⟨b.toNat, by omega⟩
  rw [dAt_nat l u v (by omega)]
  have d := distL_isN l u
  have h0 := (d.sr u (by omega)).2 (by simp [bidA_any h])
  have h1 := d.nbr u v (by omega) (by omega) (by omega) (by omega) h
  have h2 : gI (distL l u) v ≠ 0 := fun e => by
    have := (d.sr v (by omega)).1 e
    simp at this
    omega
  omega
theorem hasI_reach (l : List Adve) (a b : Int) (hb : 0 ≤ b ∧ b ≤ 5) : hasI (reachL l a) b = decide (dAt l a b ≥ 0) := by
  obtain ⟨v, rfl⟩ : ∃ v : Nat, b = v := ⟨b.toNat, by omega⟩
  rw [dAt_def, show inR (v : Int) 0 5 = true by rw [inR_t]; omega]
  simp only [if_true, Int.toNat_natCast]
  rw [Bool.eq_iff_iff, decide_eq_true_eq]
  have hm : hasI (reachL l a) (v : Int) = true ↔ (v : Int) ∈ reachL l a := by
    simp [hasI]
  rw [hm]
  unfold reachL nnT
  rw [List.mem_map]
  constructor
  · rintro ⟨k, hk, e⟩
    obtain rfl : k = v := by omega
    have := (List.mem_filter.1 hk).2
    simpa using this
  · intro h
    exact ⟨v, List.mem_filter.2 ⟨by simp; omega, by simpa using h⟩, rfl⟩
/-! Producers -/
def toldA (n : Name) (x : Adve) : Bool := x.prefs.any fun p => hasPre n p
def told (l : List Adve) (n : Name) (k : Nat) : Bool := match l.find? (orig (k : Int)) with
  | none => false
  | some x => toldA n x
def prodT (l : List Adve) (n : Name) (j : Nat) : List Int := ((List.range j).filter (told l n)).map fun (k : Nat) => (k : Int)
theorem prodT_zero (l : List Adve) (n : Name) : prodT l n 0 = [] := rfl
theorem prodT_yes {l : List Adve} {n : Name} {j : Nat} (h : told l n j = true) : prodT l n (j + 1) = prodT l n j ++ [(j : Int)] := by
  simp [prodT, List.range_succ, List.filter_append, List.filter_cons, h]
theorem prodT_no {l : List Adve} {n : Name} {j : Nat} (h : told l n j = false) : prodT l n (j + 1) = prodT l n j := by
  simp [prodT, List.range_succ, List.filter_append, List.filter_cons, h]
theorem prodT_len (l : List Adve) (n : Name) (j : Nat) : (prodT l n j).length ≤ j := by
  have := List.length_filter_le (told l n) (List.range j)
  simp at this
  simpa [prodT] using this
theorem prodT_mem {l : List Adve} {n : Name} {j : Nat} {x : Int} (h : x ∈ prodT l n j) : 0 ≤ x := by
  simp only [prodT, List.mem_map] at h
  obtain ⟨k, -, rfl⟩ := h
  omega
theorem pf_len {x : Adve} {p : Name} {z : Nat} (hz : x.prefs.length + sumN Name.size x.prefs ≤ z) (h : p ∈ x.prefs) : p.parts.length ≤ z := by
  have := sumN_mem Name.size h
  have h2 : Name.size p = strsSize p.parts := rfl
  unfold strsSize at h2
  omega
theorem is109 : FI 109 Tryz.f109 := ⟨⟨Tryz.f109, Tryz.func109, rfl, rfl, rfl, rfl⟩, rfl⟩
set_option maxRecDepth 20000 in
set_option maxHeartbeats 16000000 in
theorem s_l22Told (x : Adve) (n : Name) (hz : x.prefs.length + sumN Name.size x.prefs ≤ 1099511627776) (hn : n.parts.length ≤ 1099511627776) : FO 109 [A (Adve.c false x), A (Name.c false n)] [A (Adve.c false x), A (Name.c false n)] (B (toldA n x)) := by
  refine fok envOk mixed is109 ⟨rfl, rfl, ?_⟩
  refine Lp.mk [.bx 2, .sl 2, .bx 3, .sl 3, .sl 5] (fun m σ => ∃ d r, x.prefs = d ++ r ∧ m = r.length ∧ (d.any fun p => hasPre n p) = false ∧ σ = [Bx 2 ((Adve.c false x)), Pt 2, Bx 3 ((Name.c false n)), Pt 3, Sa 5 (I d.length)]) (x.prefs.length) _ (WkS.weak _ _) ⟨[], x.prefs, rfl, rfl, rfl, (by first | rfl | (simp only [zlen, zsum, Nat.zero_mul, Int.add_zero, Int.sub_zero, List.nil_append, markG]; rfl))⟩ ?_
  rintro m τ ⟨d, r, hd, rfl, hno, rfl⟩
  have hy : x.prefs.length = d.length + r.length := by rw [hd]; simp
  refine Nm.mk lenC ?_
  cases r with
  | nil =>
    refine Br.neg (by simp at *; omega) ?_
    (repeat' ((conv => whnf); first | refine stp ?_ | refine Br.mk (fun _ => ?_) (fun _ => ?_) ))
    refine Vs.Fin.mk (WkR.eq ?_) (.refl _)
    have e : x.prefs = d := by simp [hd]
    rw [toldA, e, hno]
  | cons p r =>
    simp at hy
    have hp := pf_len hz (p := p) (by rw [hd]; simp)
    refine Br.pos (by simp; omega) ?_
    (repeat' ((conv => whnf); first | refine stp ?_ | refine El.mk (getH hd rfl) ?_ | refine Cl.mk (s_HasPrefix n p hn hp) ?_ | refine Cl.pre (by simp only [shcLL_ints, shcLL_byts, shcLL_strs, Adve.shcs, Fetc.shcs, Gran.shcs, Link.shcs, Mani.shcs, Name.shcs, Read.shcs, Segm.shcs, Topo.shcs]; rfl) ?_))
    refine Br.mk (fun h => ?_) (fun h => ?_)
    · (repeat' ((conv => whnf); first | refine stp ?_ ))
      refine Vs.Fin.mk (WkR.eq ?_) (.refl _)
      have e : toldA n x = true := by rw [toldA, List.any_eq_true]; exact ⟨p, by rw [hd]; simp, h⟩
      rw [e]
    · (repeat' ((conv => whnf); first | refine stp ?_ ))
      refine Nx.intro r.length (by simp) _ (WkS.weak _ _) ⟨d ++ [p], r, by simp [hd], rfl, by simp_all, ?_⟩
      rw [len1]; rfl
theorem is41 : FI 41 Tryz.f41 := ⟨⟨Tryz.f41, Tryz.func41, rfl, rfl, rfl, rfl⟩, rfl⟩
set_option maxRecDepth 20000 in
set_option maxHeartbeats 16000000 in
theorem s_Producers (l : List Adve) (n : Name) (hz : l.length + sumN Adve.size l ≤ 1099511627776) (hn : n.parts.length ≤ 1099511627776) : FO 41 [Al l, A (Name.c false n)] [Al l, A (Name.c false n)] (Is true (prodT l n 6)) := by
  refine fok envOk mixed is41 ⟨rfl, rfl, ?_⟩
  refine Lp.mk [.sl 0, .bx 3, .sl 3, .sl 5, .sl 6] (fun m σ => ∃ j, j + m = 6 ∧ σ = [Sa 0 (Al l), Bx 3 ((Name.c false n)), Pt 3, Sa 5 (O (.sl true .non 1 (ints (prodT l n j)))), Sa 6 (I j)]) (6) _ (WkS.weak _ _) ⟨0, rfl, (by first | rfl | (simp only [zlen, zsum, Nat.zero_mul, Int.add_zero, Int.sub_zero, List.nil_append, markG, prodT_zero]; rfl))⟩ ?_
  rintro m τ ⟨j, hj, rfl⟩
  have hpl := prodT_len l n j
  have h9 := s_Find l j hz
  refine Br.dec (fun h => ?_) (fun h => ?_)
  · rcases find_split (p := orig (j : Int)) l with ⟨h1, h2⟩ | ⟨d, x, r, e, h2, h3, h4⟩
    · rw [findI_none h1] at h9
      (repeat' ((conv => whnf); first | refine stp ?_ | refine Cl.mk (h9) ?_ | refine Cl.pre (by simp only [shcLL_ints, shcLL_byts, shcLL_strs, Adve.shcs, Fetc.shcs, Gran.shcs, Link.shcs, Mani.shcs, Name.shcs, Read.shcs, Segm.shcs, Topo.shcs]; rfl) ?_))
      refine Nx.intro (m - 1) (by omega) _ (WkS.weak _ _) ⟨j + 1, by omega, ?_⟩
      (repeat' (first | exact rfl | refine consE ?_ ?_ | refine entE ?_ | refine vI ?_ | refine vS ?_ | refine vT ?_ | refine vB ?_))
      rw [prodT_no (by simp [told, h2])]
    · rw [find_at e h2 h3] at h9
      have hx := (ad_len hz (x := x) (by rw [e]; simp)).2.2
      have hl : l.length = d.length + (r.length + 1) := by rw [e]; simp
      have f1 : decide ((d.length : Int) ≥ 0) = true := by simp
      (repeat' ((conv => whnf); first | refine stp ?_ | refine Cl.mk (h9) ?_ | refine El.mk (getH e rfl) ?_ | refine Cl.mk (s_l22Told x n hx hn) ?_ | refine Cl.pre (by simp only [shcLL_ints, shcLL_byts, shcLL_strs, Adve.shcs, Fetc.shcs, Gran.shcs, Link.shcs, Mani.shcs, Name.shcs, Read.shcs, Segm.shcs, Topo.shcs]; rfl) ?_))
      refine Br.mk (fun h5 => ?_) (fun h5 => ?_)
      · (repeat' ((conv => whnf); first | refine stp ?_ ))
        refine Nx.intro (m - 1) (by omega) _ (WkS.weak _ _) ⟨j + 1, by omega, ?_⟩
        (repeat' (first | exact rfl | refine consE ?_ ?_ | refine entE ?_ | refine vI ?_ | refine vS ?_ | refine vT ?_ | refine vB ?_))
        rw [prodT_yes (by simp only [told, h4]; exact h5)]; simp
      · (repeat' ((conv => whnf); first | refine stp ?_ ))
        refine Nx.intro (m - 1) (by omega) _ (WkS.weak _ _) ⟨j + 1, by omega, ?_⟩
        (repeat' (first | exact rfl | refine consE ?_ ?_ | refine entE ?_ | refine vI ?_ | refine vS ?_ | refine vT ?_ | refine vB ?_))
        rw [prodT_no (by simp only [told, h4]; exact h5)]
  · obtain rfl : j = 6 := by omega
    (repeat' ((conv => whnf); first | refine stp ?_ ))
    exact Vs.Fin.mk (WkR.of (.sl1 rfl .nil)) (.refl _)
theorem is107 : FI 107 Tryz.f107 := ⟨⟨Tryz.f107, Tryz.func107, rfl, rfl, rfl, rfl⟩, rfl⟩
set_option maxRecDepth 20000 in
set_option maxHeartbeats 16000000 in
theorem i_Producers_1 (p n : Name) (hp : p.parts.length ≤ 1099511627776) (hn : n.parts.length ≤ 1099511627776) : FO 107 [A (Name.c false p), O (.cp (Name.c false n) 0)] [A (Name.c false p), O (.cp (Name.c false n) 0)] (B (hasPre n p)) := by
  refine fok envOk mixed is107 ⟨rfl, rfl, ?_⟩
  (repeat' ((conv => whnf); first | refine stp ?_ | refine Br.mk (fun _ => ?_) (fun _ => ?_) | refine Cl.mk (i_HasPrefix n p hn hp) ?_ | refine Cl.pre (by simp only [shcLL_ints, shcLL_byts, shcLL_strs, Adve.shcs, Fetc.shcs, Gran.shcs, Link.shcs, Mani.shcs, Name.shcs, Read.shcs, Segm.shcs, Topo.shcs]; rfl) ?_))
  exact ⟨WkR.refl _, .refl _⟩
theorem is40 : FI 40 Tryz.f40 := ⟨⟨Tryz.f40, Tryz.func40, rfl, rfl, rfl, rfl⟩, rfl⟩
set_option maxRecDepth 20000 in
set_option maxHeartbeats 16000000 in
theorem i_Producers (l : List Adve) (n : Name) (hz : l.length + sumN Adve.size l ≤ 1099511627776) (hn : n.parts.length ≤ 1099511627776) : FO 40 [Al l, A (Name.c false n)] [Al l, A (Name.c false n)] (Is true (prodT l n 6)) := by
  refine fok envOk mixed is40 ⟨rfl, rfl, ?_⟩
  (repeat' ((conv => whnf); first | refine stp ?_ ))
  refine Lp.mk [.sl 0, .bx 3, .sl 3, .sl 5, .sl 9] (fun m σ => ∃ j, j + m = 6 ∧ σ = [Sa 0 (Al l), Bx 3 ((Name.c false n)), Pt 3, Sa 5 (O (.sl true .non 1 (ints (prodT l n j)))), Sa 9 (I j)]) (6) _ (WkS.weak _ _) ⟨0, rfl, (by first | rfl | (simp only [zlen, zsum, Nat.zero_mul, Int.add_zero, Int.sub_zero, List.nil_append, markG, prodT_zero]; rfl))⟩ ?_
  rintro m τ ⟨j, hj, rfl⟩
  have hpl := prodT_len l n j
  have h9 := i_Find l j hz
  refine Br.dec (fun h => ?_) (fun h => ?_)
  · rcases find_split (p := orig (j : Int)) l with ⟨h1, h2⟩ | ⟨d, x, r, e, h2, h3, h4⟩
    · rw [findI_none h1] at h9
      (repeat' ((conv => whnf); first | refine stp ?_ | refine Cl.mk (h9) ?_ | refine Cl.pre (by simp only [shcLL_ints, shcLL_byts, shcLL_strs, Adve.shcs, Fetc.shcs, Gran.shcs, Link.shcs, Mani.shcs, Name.shcs, Read.shcs, Segm.shcs, Topo.shcs]; rfl) ?_))
      refine Nx.intro (m - 1) (by omega) _ (WkS.weak _ _) ⟨j + 1, by omega, ?_⟩
      (repeat' (first | exact rfl | refine consE ?_ ?_ | refine entE ?_ | refine vI ?_ | refine vS ?_ | refine vT ?_ | refine vB ?_))
      · rw [prodT_no (by simp [told, h2])]
      all_goals simp
    · rw [find_at e h2 h3] at h9
      have hx := (ad_len hz (x := x) (by rw [e]; simp)).2.2
      have hl : l.length = d.length + (r.length + 1) := by rw [e]; simp
      have f1 : decide ((d.length : Int) ≥ 0) = true := by simp
      (repeat' ((conv => whnf); first | refine stp ?_ | refine Cl.mk (h9) ?_ | refine El.mk (getH e rfl) ?_ | refine Cl.mk (ContainsFunc_Name1 (l := x.prefs) (by omega) (fun p hp => i_Producers_1 p n (pf_len hx hp) hn)) ?_ | refine Cl.pre (by simp only [shcLL_ints, shcLL_byts, shcLL_strs, Adve.shcs, Fetc.shcs, Gran.shcs, Link.shcs, Mani.shcs, Name.shcs, Read.shcs, Segm.shcs, Topo.shcs]; rfl) ?_))
      refine Br.mk (fun h5 => ?_) (fun h5 => ?_)
      · (repeat' ((conv => whnf); first | refine stp ?_ ))
        refine Nx.intro (m - 1) (by omega) _ (WkS.weak _ _) ⟨j + 1, by omega, ?_⟩
        (repeat' (first | exact rfl | refine consE ?_ ?_ | refine entE ?_ | refine vI ?_ | refine vS ?_ | refine vT ?_ | refine vB ?_))
        · rw [prodT_yes (by simp only [told, h4]; exact h5)]; simp
        all_goals simp
      · (repeat' ((conv => whnf); first | refine stp ?_ ))
        refine Nx.intro (m - 1) (by omega) _ (WkS.weak _ _) ⟨j + 1, by omega, ?_⟩
        (repeat' (first | exact rfl | refine consE ?_ ?_ | refine entE ?_ | refine vI ?_ | refine vS ?_ | refine vT ?_ | refine vB ?_))
        · rw [prodT_no (by simp only [told, h4]; exact h5)]
        all_goals simp
  · obtain rfl : j = 6 := by omega
    (repeat' ((conv => whnf); first | refine stp ?_ ))
    exact Vs.Fin.mk (WkR.of (.sl1 rfl .nil)) (.refl _)
noncomputable def nstep (l : List Adve) (a b x : Int) : Int := if 0 ≤ dAt l a x ∧ (b < 0 ∨ dAt l a x < dAt l a b) then x else b
noncomputable def near (l : List Adve) (a : Int) (n : Name) : Int := (prodT l n 6).foldl (nstep l a) (-1)
theorem near_snoc {l : List Adve} {a : Int} {d : List Int} {x : Int} : (d ++ [x]).foldl (nstep l a) (-1) = nstep l a (d.foldl (nstep l a) (-1)) x := by simp
theorem nstep_b {l : List Adve} {a : Int} : ∀ (d : List Int), (∀ x ∈ d, 0 ≤ x) → ∀ b, -1 ≤ b → -1 ≤ d.foldl (nstep l a) b
  | [], _, b, h => h
  | x :: d, hd, b, h => by
    refine nstep_b d (fun y hy => hd y (by simp [hy])) _ ?_
    have := hd x (by simp)
    unfold nstep; split <;> omega
theorem near_b (l : List Adve) (a : Int) (n : Name) : -1 ≤ near l a n := nstep_b _ (fun x hx => prodT_mem hx) _ (by omega)
theorem is34 : FI 34 Tryz.f34 := ⟨⟨Tryz.f34, Tryz.func34, rfl, rfl, rfl, rfl⟩, rfl⟩
set_option maxRecDepth 20000 in
set_option maxHeartbeats 16000000 in
theorem s_Nearest (l : List Adve) (a : Int) (n : Name) (hz : l.length + sumN Adve.size l ≤ 1099511627776) (hn : n.parts.length ≤ 1099511627776) : FO 34 [Al l, I a, A (Name.c false n)] [Al l, I a, A (Name.c false n)] (I (near l a n)) := by
  refine fok envOk mixed is34 ⟨rfl, rfl, ?_⟩
  have hpl := prodT_len l n 6
  (repeat' ((conv => whnf); first | refine stp ?_ | refine Cl.mk (s_Producers l n hz hn) ?_ | refine Cl.pre (by simp only [shcLL_ints, shcLL_byts, shcLL_strs, Adve.shcs, Fetc.shcs, Gran.shcs, Link.shcs, Mani.shcs, Name.shcs, Read.shcs, Segm.shcs, Topo.shcs]; rfl) ?_))
  refine Lp.mk [.sl 0, .sl 1, .sl 7, .sl 8, .sl 9] (fun m σ => ∃ d r, prodT l n 6 = d ++ r ∧ m = r.length ∧ σ = [Sa 0 (Al l), Sa 1 (I a), Sa 7 (I (d.foldl (nstep l a) (-1))), Sa 8 (Is true (prodT l n 6)), Sa 9 (I d.length)]) ((prodT l n 6).length) _ (WkS.weak _ _) ⟨[], prodT l n 6, rfl, rfl, (by first | rfl | (simp only [zlen, zsum, Nat.zero_mul, Int.add_zero, Int.sub_zero, List.nil_append, markG]; rfl))⟩ ?_
  rintro m τ ⟨d, r, hd, rfl, rfl⟩
  have hy : (prodT l n 6).length = d.length + r.length := by rw [hd]; simp
  refine Nm.mk lenC ?_
  cases r with
  | nil =>
    refine Br.neg (by simp at *; omega) ?_
    (repeat' ((conv => whnf); first | refine stp ?_ ))
    refine Vs.Fin.mk (WkR.eq ?_) (.refl _)
    rw [near, hd]; simp
  | cons x r =>
    simp at hy
    refine Br.pos (by simp; omega) ?_
    have hs : ∀ b, b = nstep l a (d.foldl (nstep l a) (-1)) x → (d ++ [x]).foldl (nstep l a) (-1) = b := fun b hb => by rw [near_snoc, hb]
    generalize hB : d.foldl (nstep l a) (-1) = b at hs ⊢
    (repeat' ((conv => whnf); first | refine stp ?_ | refine El.mk (getH hd rfl) ?_ | refine Cl.mk (s_Distance l a x hz) ?_ | refine Cl.pre (by simp only [shcLL_ints, shcLL_byts, shcLL_strs, Adve.shcs, Fetc.shcs, Gran.shcs, Link.shcs, Mani.shcs, Name.shcs, Read.shcs, Segm.shcs, Topo.shcs]; rfl) ?_))
    refine Br.mk (fun h1 => ?_) (fun h1 => ?_)
    · (repeat' ((conv => whnf); first | refine stp ?_ ))
      refine Br.mk (fun h2 => ?_) (fun h2 => ?_)
      · (repeat' ((conv => whnf); first | refine stp ?_ | refine El.mk (getH hd rfl) ?_ | refine Cl.pre (by simp only [shcLL_ints, shcLL_byts, shcLL_strs, Adve.shcs, Fetc.shcs, Gran.shcs, Link.shcs, Mani.shcs, Name.shcs, Read.shcs, Segm.shcs, Topo.shcs]; rfl) ?_))
        refine Nx.intro r.length (by simp) _ (WkS.weak _ _) ⟨d ++ [x], r, by simp [hd], rfl, ?_⟩
        (repeat' (first | exact rfl | refine consE ?_ ?_ | refine entE ?_ | refine vI ?_ | refine vS ?_ | refine vT ?_ | refine vB ?_))
        · rw [hs x]; rw [nstep, if_pos ⟨by simpa using h1, .inl (by simpa using h2)⟩]
        · simp
      · (repeat' ((conv => whnf); first | refine stp ?_ | refine Cl.mk (s_Distance l a b hz) ?_ | refine Cl.pre (by simp only [shcLL_ints, shcLL_byts, shcLL_strs, Adve.shcs, Fetc.shcs, Gran.shcs, Link.shcs, Mani.shcs, Name.shcs, Read.shcs, Segm.shcs, Topo.shcs]; rfl) ?_))
        refine Br.mk (fun h3 => ?_) (fun h3 => ?_)
        · (repeat' ((conv => whnf); first | refine stp ?_ | refine El.mk (getH hd rfl) ?_ | refine Cl.pre (by simp only [shcLL_ints, shcLL_byts, shcLL_strs, Adve.shcs, Fetc.shcs, Gran.shcs, Link.shcs, Mani.shcs, Name.shcs, Read.shcs, Segm.shcs, Topo.shcs]; rfl) ?_))
          refine Nx.intro r.length (by simp) _ (WkS.weak _ _) ⟨d ++ [x], r, by simp [hd], rfl, ?_⟩
          (repeat' (first | exact rfl | refine consE ?_ ?_ | refine entE ?_ | refine vI ?_ | refine vS ?_ | refine vT ?_ | refine vB ?_))
          · rw [hs x]; rw [nstep, if_pos ⟨by simpa using h1, .inr (by simpa using h3)⟩]
          · simp
        · (repeat' ((conv => whnf); first | refine stp ?_ ))
          refine Nx.intro r.length (by simp) _ (WkS.weak _ _) ⟨d ++ [x], r, by simp [hd], rfl, ?_⟩
          (repeat' (first | exact rfl | refine consE ?_ ?_ | refine entE ?_ | refine vI ?_ | refine vS ?_ | refine vT ?_ | refine vB ?_))
          · rw [hs b]; rw [nstep, if_neg (by simp at h2 h3; omega)]
          · simp
    · (repeat' ((conv => whnf); first | refine stp ?_ ))
      refine Nx.intro r.length (by simp) _ (WkS.weak _ _) ⟨d ++ [x], r, by simp [hd], rfl, ?_⟩
      (repeat' (first | exact rfl | refine consE ?_ ?_ | refine entE ?_ | refine vI ?_ | refine vS ?_ | refine vT ?_ | refine vB ?_))
      · rw [hs b]; rw [nstep, if_neg (by simp at h1; omega)]
      · simp
theorem is33 : FI 33 Tryz.f33 := ⟨⟨Tryz.f33, Tryz.func33, rfl, rfl, rfl, rfl⟩, rfl⟩
set_option maxRecDepth 20000 in
set_option maxHeartbeats 16000000 in
theorem i_Nearest (l : List Adve) (a : Int) (n : Name) (hz : l.length + sumN Adve.size l ≤ 1099511627776) (hn : n.parts.length ≤ 1099511627776) : FO 33 [Al l, I a, A (Name.c false n)] [Al l, I a, A (Name.c false n)] (I (near l a n)) := by
  refine fok envOk mixed is33 ⟨rfl, rfl, ?_⟩
  have hpl := prodT_len l n 6
  (repeat' ((conv => whnf); first | refine stp ?_ | refine Cl.mk (i_Producers l n hz hn) ?_ | refine Cl.pre (by simp only [shcLL_ints, shcLL_byts, shcLL_strs, Adve.shcs, Fetc.shcs, Gran.shcs, Link.shcs, Mani.shcs, Name.shcs, Read.shcs, Segm.shcs, Topo.shcs]; rfl) ?_))
  refine Lp.mk [.sl 0, .sl 1, .sl 7, .sl 8, .sl 14, .sl 15, .sl 16] (fun m σ => ∃ d r w, prodT l n 6 = d ++ r ∧ m = r.length ∧ (d.foldl (nstep l a) (-1) < 0 ∨ w = dAt l a (d.foldl (nstep l a) (-1))) ∧ σ = [Sa 0 (Al l), Sa 1 (I a), Sa 7 (I (d.foldl (nstep l a) (-1))), Sa 8 (I w), Sa 14 (Is true (prodT l n 6)), Sa 15 (I (prodT l n 6).length), Sa 16 (I d.length)]) ((prodT l n 6).length) _ (WkS.weak _ _) ⟨[], prodT l n 6, 0, rfl, rfl, .inl (by simp), (by first | rfl | (simp only [zlen, zsum, Nat.zero_mul, Int.add_zero, Int.sub_zero, List.nil_append, markG]; rfl))⟩ ?_
  rintro m τ ⟨d, r, w, hd, rfl, hw, rfl⟩
  have hy : (prodT l n 6).length = d.length + r.length := by rw [hd]; simp
  cases r with
  | nil =>
    refine Br.neg (by simp at *; omega) ?_
    (repeat' ((conv => whnf); first | refine stp ?_ ))
    refine Vs.Fin.mk (WkR.eq ?_) (.refl _)
    rw [near, hd]; simp
  | cons x r =>
    simp at hy
    refine Br.pos (by simp; omega) ?_
    have hs : ∀ b, b = nstep l a (d.foldl (nstep l a) (-1)) x → (d ++ [x]).foldl (nstep l a) (-1) = b := fun b hb => by rw [near_snoc, hb]
    generalize hB : d.foldl (nstep l a) (-1) = b at hs hw ⊢
    (repeat' ((conv => whnf); first | refine stp ?_ | refine El.mk (getH hd rfl) ?_ | refine Cl.mk (i_Distance l a x hz) ?_ | refine Cl.pre (by simp only [shcLL_ints, shcLL_byts, shcLL_strs, Adve.shcs, Fetc.shcs, Gran.shcs, Link.shcs, Mani.shcs, Name.shcs, Read.shcs, Segm.shcs, Topo.shcs]; rfl) ?_))
    refine Br.mk (fun h1 => ?_) (fun h1 => ?_)
    · (repeat' ((conv => whnf); first | refine stp ?_ ))
      refine Br.mk (fun h2 => ?_) (fun h2 => ?_)
      · (repeat' ((conv => whnf); first | refine stp ?_ ))
        have e := hs x (by rw [nstep, if_pos ⟨by simpa using h1, .inl (by simpa using h2)⟩])
        refine Nx.intro r.length (by simp) _ (WkS.weak _ _) ⟨d ++ [x], r, dAt l a x, by simp [hd], rfl, .inr (by rw [e]), ?_⟩
        (repeat' (first | exact rfl | refine consE ?_ ?_ | refine entE ?_ | refine vI ?_ | refine vS ?_ | refine vT ?_ | refine vB ?_))
        · rw [e]
        · simp
      · (repeat' ((conv => whnf); first | refine stp ?_ ))
        have hw2 : w = dAt l a b := by simp at h2; omega
        refine Br.mk (fun h3 => ?_) (fun h3 => ?_)
        · (repeat' ((conv => whnf); first | refine stp ?_ ))
          have e := hs x (by rw [nstep, if_pos ⟨by simpa using h1, .inr (by rw [← hw2]; simpa using h3)⟩])
          refine Nx.intro r.length (by simp) _ (WkS.weak _ _) ⟨d ++ [x], r, dAt l a x, by simp [hd], rfl, .inr (by rw [e]), ?_⟩
          (repeat' (first | exact rfl | refine consE ?_ ?_ | refine entE ?_ | refine vI ?_ | refine vS ?_ | refine vT ?_ | refine vB ?_))
          · rw [e]
          · simp
        · (repeat' ((conv => whnf); first | refine stp ?_ ))
          have e := hs b (by rw [nstep, if_neg (by simp at h2 h3; omega)])
          refine Nx.intro r.length (by simp) _ (WkS.weak _ _) ⟨d ++ [x], r, w, by simp [hd], rfl, by rw [e]; exact hw, ?_⟩
          (repeat' (first | exact rfl | refine consE ?_ ?_ | refine entE ?_ | refine vI ?_ | refine vS ?_ | refine vT ?_ | refine vB ?_))
          · rw [e]
          · simp
    · (repeat' ((conv => whnf); first | refine stp ?_ ))
      have e := hs b (by rw [nstep, if_neg (by simp at h1; omega)])
      refine Nx.intro r.length (by simp) _ (WkS.weak _ _) ⟨d ++ [x], r, w, by simp [hd], rfl, by rw [e]; exact hw, ?_⟩
      (repeat' (first | exact rfl | refine consE ?_ ?_ | refine entE ?_ | refine vI ?_ | refine vS ?_ | refine vT ?_ | refine vB ?_))
      · rw [e]
      · simp
theorem is36 : FI 36 Tryz.f36 := ⟨⟨Tryz.f36, Tryz.func36, rfl, rfl, rfl, rfl⟩, rfl⟩
set_option maxRecDepth 20000 in
set_option maxHeartbeats 16000000 in
theorem s_HasProducer (l : List Adve) (a : Int) (n : Name) (hz : l.length + sumN Adve.size l ≤ 1099511627776) (hn : n.parts.length ≤ 1099511627776) : FO 36 [Al l, I a, A (Name.c false n)] [Al l, I a, A (Name.c false n)] (B (decide (near l a n ≥ 0))) := by
  refine fok envOk mixed is36 ⟨rfl, rfl, ?_⟩
  (repeat' ((conv => whnf); first | refine stp ?_ | refine Br.mk (fun _ => ?_) (fun _ => ?_) | refine Cl.mk (s_Nearest l a n hz hn) ?_ | refine Cl.pre (by simp only [shcLL_ints, shcLL_byts, shcLL_strs, Adve.shcs, Fetc.shcs, Gran.shcs, Link.shcs, Mani.shcs, Name.shcs, Read.shcs, Segm.shcs, Topo.shcs]; rfl) ?_))
  exact ⟨WkR.refl _, .refl _⟩
theorem is35 : FI 35 Tryz.f35 := ⟨⟨Tryz.f35, Tryz.func35, rfl, rfl, rfl, rfl⟩, rfl⟩
set_option maxRecDepth 20000 in
set_option maxHeartbeats 16000000 in
theorem i_HasProducer (l : List Adve) (a : Int) (n : Name) (hz : l.length + sumN Adve.size l ≤ 1099511627776) (hn : n.parts.length ≤ 1099511627776) : FO 35 [Al l, I a, A (Name.c false n)] [Al l, I a, A (Name.c false n)] (B (decide (near l a n ≥ 0))) := by
  refine fok envOk mixed is35 ⟨rfl, rfl, ?_⟩
  have hb := near_b l a n
  have e : (near l a n != -1) = decide (near l a n ≥ 0) := by
    by_cases h : near l a n = -1
    · rw [h]; rfl
    · have h9 : near l a n ≥ 0 := by omega
      have h8 : (near l a n != -1) = true := by simpa using h
      rw [h8]; exact (decide_eq_true h9).symm
  (repeat' ((conv => whnf); first | refine stp ?_ | refine Br.mk (fun _ => ?_) (fun _ => ?_) | refine Cl.mk (i_Nearest l a n hz hn) ?_ | refine Cl.pre (by simp only [shcLL_ints, shcLL_byts, shcLL_strs, Adve.shcs, Fetc.shcs, Gran.shcs, Link.shcs, Mani.shcs, Name.shcs, Read.shcs, Segm.shcs, Topo.shcs]; rfl) ?_))
  rw [← e]
  exact Vs.Fin.mk (WkR.refl _) (.refl _)
theorem is225 : FI 225 Tryz.f225 := ⟨⟨Tryz.f225, Tryz.func225, rfl, rfl, rfl, rfl⟩, rfl⟩
set_option maxRecDepth 20000 in
set_option maxHeartbeats 16000000 in
theorem IndexFunc_Link2 {l : List Link} (hl : l.length ≤ 1099511627776) {g : Nat} {cc0 : List AV} {co0 : Nat} {cc1 : List AV} {co1 : Nat} {p : Link → Bool} (hg : ∀ x ∈ l, FO g [A (Link.c false x), O (.cp cc0 co0), O (.cp cc1 co1)] [A (Link.c false x), O (.cp cc0 co0), O (.cp cc1 co1)] (B (p x))) : FO 225 [O (sl false 2 (l.map (Link.c false))), O (.clo g [.cp cc0 co0, .cp cc1 co1])] [O (sl false 2 (l.map (Link.c false))), O (.clo g [.cp cc0 co0, .cp cc1 co1])] (I (findI p l 0)) := by
  refine fok envOk mixed is225 ⟨rfl, rfl, ?_⟩
  refine Nm.mk lenC ?_
  refine Lp.mk [.sl 0, .sl 1, .sl 7, .sl 8] (fun m σ => ∃ d r, l = d ++ r ∧ m = r.length ∧ d.any p = false ∧ σ = [Sa 0 (O (sl false 2 (l.map (Link.c false)))), Sa 1 (O (.clo g [.cp cc0 co0, .cp cc1 co1])), Sa 7 (I l.length), Sa 8 (I d.length)]) (l.length) _ (WkS.weak _ _) ⟨[], l, rfl, rfl, rfl, (by first | rfl | (simp only [zlen, zsum, Nat.zero_mul, Int.add_zero, Int.sub_zero, List.nil_append, markG]; rfl))⟩ ?_
  rintro m τ ⟨d, r, rfl, rfl, hd, rfl⟩
  cases r with
  | nil =>
    refine Br.neg (by simp) ?_
    (repeat' ((conv => whnf); first | refine stp ?_ | refine Br.mk (fun _ => ?_) (fun _ => ?_) ))
    refine Vs.Fin.mk (WkR.eq ?_) (.refl _)
    rw [findI_none (by simpa using hd)]
  | cons x r =>
    refine Br.pos (by simp; omega) ?_
    refine Rq.mk ⟨by omega, by simp; omega⟩ ?_
    refine El.mk (getA rfl) ?_
    refine Cl.mk (hg x (by simp)) ?_
    refine Rq.mk (by simp [dOwnL, dOwn]) ?_
    refine Br.mk (fun h => ?_) (fun h => ?_)
    · (repeat' ((conv => whnf); first | refine stp ?_ | refine Br.mk (fun _ => ?_) (fun _ => ?_) ))
      refine Vs.Fin.mk (WkR.eq ?_) (.refl _)
      rw [findI_at hd h]; simp
    · refine Nm.mk (wrapI (by omega) (by simp at hl; omega)) ?_
      refine Nx.intro r.length (by simp) _ (WkS.weak _ _) ⟨d ++ [x], r, by simp, rfl, by simp_all, ?_⟩
      rw [len1]; rfl
end Go.Proofs.YtigkmijoefibiaaGreat
