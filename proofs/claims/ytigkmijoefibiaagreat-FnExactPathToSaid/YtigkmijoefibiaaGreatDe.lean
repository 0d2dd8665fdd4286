/- Contracts of functions of the program: no statement of the seat is proved here. Each under the conditions that stand in it. -/
import Derived.Test.YtigkmijoefibiaaGreatDe1
set_option linter.all false
namespace Go.Proofs.YtigkmijoefibiaaGreat
open Go.Vs Go.Proofs
theorem bidA_symm (l : List Adve) (a b : Int) : bidA l a b = bidA l b a := by simp [bidA, Bool.and_comm]
theorem nbrA_any {l : List Adve} {a b : Int} (h : nbrA l a b = true) : l.any (orig a) = true := by
  unfold nbrA at h
  rw [← find_any]
  cases hf : l.find? (orig a) with
  | none => rw [hf] at h; simp at h
  | some x => rfl
theorem clo_zero {l : List Adve} {a b : Int} {x : Nat} (hx : x < 6) (hd : dAt l a b = 0) (hb : bidA l a (x : Int) = true) : dAt l x b ≠ -1 := by
  rw [dAt_def] at hd ⊢
  split at hd
  · rename_i hr
    have hr2 : 0 ≤ b ∧ b ≤ 5 := by simpa [inR_t] using hr
    obtain ⟨c, rfl⟩ : ∃ c : Nat, b = c := ⟨b.toNat, by omega⟩
    simp only [Int.toNat_natCast] at hd ⊢
    have hs := ((distL_is l a).sr c (by omega)).1 hd
    simp only [srcA, Bool.and_eq_true, beq_iff_eq] at hs
    obtain ⟨rfl, -⟩ := hs
    have hb2 : bidA l (x : Int) (c : Int) = true := by rw [bidA_symm]; exact hb
    have hn : nbrA l (x : Int) (c : Int) = true := by simp [bidA] at hb2; exact hb2.1
    have h0 : gI (distL l x) x = 0 := ((distL_is l x).sr x hx).2 (by simp [srcA, nbrA_any hn])
    have h1 := (distL_is l x).nbr x c hx (by omega) (by omega) (by omega) hb2
    simp only [hr, if_true]
    omega
  · omega
noncomputable def cloB (l : List Adve) (a b : Int) (x : Nat) : Bool := decide (0 < dAt l a b) && (bidA l a (x : Int) && decide (dAt l x b = dAt l a b - 1))
noncomputable def cloT (l : List Adve) (a b : Int) (j : Nat) : List Int := ((List.range j).filter (cloB l a b)).map fun (k : Nat) => (k : Int)
theorem cloT_zero (l : List Adve) (a b : Int) : cloT l a b 0 = [] := rfl
theorem cloT_yes {l : List Adve} {a b : Int} {j : Nat} (h : cloB l a b j = true) : cloT l a b (j + 1) = cloT l a b j ++ [(j : Int)] := by
  simp [cloT, List.range_succ, List.filter_append, List.filter_cons, h]
theorem cloT_no {l : List Adve} {a b : Int} {j : Nat} (h : cloB l a b j = false) : cloT l a b (j + 1) = cloT l a b j := by
  simp [cloT, List.range_succ, List.filter_append, List.filter_cons, h]
theorem cloT_len (l : List Adve) (a b : Int) (j : Nat) : (cloT l a b j).length ≤ j := by
  have := List.length_filter_le (cloB l a b) (List.range j)
  simp at this
  simpa [cloT] using this
theorem cloT_none {l : List Adve} {a b : Int} (h : ¬ 0 < dAt l a b) : ∀ j, cloT l a b j = []
  | 0 => rfl
  | j + 1 => by rw [cloT_no (by simp [cloB, h]), cloT_none h j]
theorem is101 : FI 101 Tryz.f101 := ⟨⟨Tryz.f101, Tryz.func101, rfl, rfl, rfl, rfl⟩, rfl⟩
set_option maxRecDepth 20000 in
set_option maxHeartbeats 16000000 in
theorem s_Closer (l : List Adve) (a b : Int) (hz : l.length + sumN Adve.size l ≤ 1099511627776) : FO 101 [Al l, I a, I b] [Al l, I a, I b] (Is true (cloT l a b 6)) := by
  refine fok envOk mixed is101 ⟨rfl, rfl, ?_⟩
  have hdb := dAt_b l a b
  (repeat' ((conv => whnf); first | refine stp ?_ | refine Cl.mk (s_Distance l a b hz) ?_ | refine Cl.pre (by simp only [shcLL_ints, shcLL_byts, shcLL_strs, Adve.shcs, Fetc.shcs, Gran.shcs, Mani.shcs, Name.shcs, Read.shcs, Segm.shcs]; rfl) ?_))
  refine Lp.mk [.sl 0, .sl 1, .sl 2, .sl 7, .sl 8, .sl 9] (fun m σ => ∃ j, j + m = 6 ∧ σ = [Sa 0 (Al l), Sa 1 (I a), Sa 2 (I b), Sa 7 (O (.sl true .non 1 (ints (cloT l a b j)))), Sa 8 (I (dAt l a b)), Sa 9 (I j)]) (6) _ (WkS.weak _ _) ⟨0, rfl, (by first | rfl | (simp only [zlen, zsum, Nat.zero_mul, Int.add_zero, Int.sub_zero, List.nil_append, markG, cloT_zero]; rfl))⟩ ?_
  rintro m τ ⟨j, hj, rfl⟩
  have hcl := cloT_len l a b j
  refine Br.mk (fun h => ?_) (fun h => ?_)
  · (repeat' ((conv => whnf); first | refine stp ?_ ))
    refine Br.mk (fun h1 => ?_) (fun h1 => ?_)
    · (repeat' ((conv => whnf); first | refine stp ?_ | refine Cl.mk (s_Bid l a j hz) ?_ | refine Cl.pre (by simp only [shcLL_ints, shcLL_byts, shcLL_strs, Adve.shcs, Fetc.shcs, Gran.shcs, Mani.shcs, Name.shcs, Read.shcs, Segm.shcs]; rfl) ?_))
      refine Br.mk (fun h2 => ?_) (fun h2 => ?_)
      · (repeat' ((conv => whnf); first | refine stp ?_ | refine Cl.mk (s_Distance l j b hz) ?_ | refine Cl.pre (by simp only [shcLL_ints, shcLL_byts, shcLL_strs, Adve.shcs, Fetc.shcs, Gran.shcs, Mani.shcs, Name.shcs, Read.shcs, Segm.shcs]; rfl) ?_))
        refine Br.mk (fun h3 => ?_) (fun h3 => ?_)
        · (repeat' ((conv => whnf); first | refine stp ?_ ))
          refine Nx.intro (m - 1) (by simp at h; omega) _ (WkS.weak _ _) ⟨j + 1, by simp at h; omega, ?_⟩
          (repeat' (first | exact rfl | refine consE ?_ ?_ | refine entE ?_ | refine vI ?_ | refine vS ?_ | refine vT ?_ | refine vB ?_))
          rw [cloT_yes (by simp_all [cloB])]; simp
        · (repeat' ((conv => whnf); first | refine stp ?_ ))
          refine Nx.intro (m - 1) (by simp at h; omega) _ (WkS.weak _ _) ⟨j + 1, by simp at h; omega, ?_⟩
          (repeat' (first | exact rfl | refine consE ?_ ?_ | refine entE ?_ | refine vI ?_ | refine vS ?_ | refine vT ?_ | refine vB ?_))
          rw [cloT_no (by simp_all [cloB])]
      · (repeat' ((conv => whnf); first | refine stp ?_ ))
        refine Nx.intro (m - 1) (by simp at h; omega) _ (WkS.weak _ _) ⟨j + 1, by simp at h; omega, ?_⟩
        (repeat' (first | exact rfl | refine consE ?_ ?_ | refine entE ?_ | refine vI ?_ | refine vS ?_ | refine vT ?_ | refine vB ?_))
        rw [cloT_no (by simp_all [cloB])]
    · (repeat' ((conv => whnf); first | refine stp ?_ ))
      have hn : ¬ 0 < dAt l a b := by simpa using h1
      refine Vs.Fin.mk (WkR.of (.sl1 ?_ .nil)) (.refl _)
      rw [cloT_none hn, cloT_none hn]
  · obtain rfl : j = 6 := by simp at h; omega
    (repeat' ((conv => whnf); first | refine stp ?_ ))
    exact Vs.Fin.mk (WkR.of (.sl1 rfl .nil)) (.refl _)
theorem is94 : FI 94 Tryz.f94 := ⟨⟨Tryz.f94, Tryz.func94, rfl, rfl, rfl, rfl⟩, rfl⟩
set_option maxRecDepth 20000 in
set_option maxHeartbeats 16000000 in
theorem i_Closer (l : List Adve) (a b : Int) (hz : l.length + sumN Adve.size l ≤ 1099511627776) : FO 94 [Al l, I a, I b] [Al l, I a, I b] (Is true (cloT l a b 6)) := by
  refine fok envOk mixed is94 ⟨rfl, rfl, ?_⟩
  have hdb := dAt_b l a b
  (repeat' ((conv => whnf); first | refine stp ?_ | refine Cl.mk (i_Distance l a b hz) ?_ | refine Cl.pre (by simp only [shcLL_ints, shcLL_byts, shcLL_strs, Adve.shcs, Fetc.shcs, Gran.shcs, Mani.shcs, Name.shcs, Read.shcs, Segm.shcs]; rfl) ?_))
  refine Lp.mk [.sl 0, .sl 1, .sl 2, .sl 7, .sl 8, .sl 15] (fun m σ => ∃ j, j + m = 6 ∧ σ = [Sa 0 (Al l), Sa 1 (I a), Sa 2 (I b), Sa 7 (I (dAt l a b)), Sa 8 (O (.sl true .non 1 (ints (cloT l a b j)))), Sa 15 (I j)]) (6) _ (WkS.weak _ _) ⟨0, rfl, (by first | rfl | (simp only [zlen, zsum, Nat.zero_mul, Int.add_zero, Int.sub_zero, List.nil_append, markG, cloT_zero]; rfl))⟩ ?_
  rintro m τ ⟨j, hj, rfl⟩
  have hcl := cloT_len l a b j
  refine Br.mk (fun h => ?_) (fun h => ?_)
  · (repeat' ((conv => whnf); first | refine stp ?_ ))
    refine Br.mk (fun h1 => ?_) (fun h1 => ?_)
    · (repeat' ((conv => whnf); first | refine stp ?_ | refine Cl.mk (i_Bid l a j hz) ?_ | refine Cl.pre (by simp only [shcLL_ints, shcLL_byts, shcLL_strs, Adve.shcs, Fetc.shcs, Gran.shcs, Mani.shcs, Name.shcs, Read.shcs, Segm.shcs]; rfl) ?_))
      refine Br.mk (fun h2 => ?_) (fun h2 => ?_)
      · (repeat' ((conv => whnf); first | refine stp ?_ | refine Cl.mk (i_Distance l j b hz) ?_ | refine Cl.pre (by simp only [shcLL_ints, shcLL_byts, shcLL_strs, Adve.shcs, Fetc.shcs, Gran.shcs, Mani.shcs, Name.shcs, Read.shcs, Segm.shcs]; rfl) ?_))
        refine Br.mk (fun h3 => ?_) (fun h3 => ?_)
        · (repeat' ((conv => whnf); first | refine stp ?_ ))
          refine Nx.intro (m - 1) (by simp at h; omega) _ (WkS.weak _ _) ⟨j + 1, by simp at h; omega, ?_⟩
          (repeat' (first | exact rfl | refine consE ?_ ?_ | refine entE ?_ | refine vI ?_ | refine vS ?_ | refine vT ?_ | refine vB ?_))
          have hz0 : dAt l a b ≠ 0 := fun h0 => clo_zero (x := j) (by simp at h; omega) h0 h2 (by simp at h3; omega)
          rw [cloT_yes (by simp at h1 h3; simp [cloB, h2]; omega)]; simp
        · (repeat' ((conv => whnf); first | refine stp ?_ ))
          refine Nx.intro (m - 1) (by simp at h; omega) _ (WkS.weak _ _) ⟨j + 1, by simp at h; omega, ?_⟩
          (repeat' (first | exact rfl | refine consE ?_ ?_ | refine entE ?_ | refine vI ?_ | refine vS ?_ | refine vT ?_ | refine vB ?_))
          rw [cloT_no (by simp_all [cloB])]
      · (repeat' ((conv => whnf); first | refine stp ?_ ))
        refine Nx.intro (m - 1) (by simp at h; omega) _ (WkS.weak _ _) ⟨j + 1, by simp at h; omega, ?_⟩
        (repeat' (first | exact rfl | refine consE ?_ ?_ | refine entE ?_ | refine vI ?_ | refine vS ?_ | refine vT ?_ | refine vB ?_))
        rw [cloT_no (by simp_all [cloB])]
    · (repeat' ((conv => whnf); first | refine stp ?_ ))
      refine Nx.intro (m - 1) (by simp at h; omega) _ (WkS.weak _ _) ⟨j + 1, by simp at h; omega, ?_⟩
      (repeat' (first | exact rfl | refine consE ?_ ?_ | refine entE ?_ | refine vI ?_ | refine vS ?_ | refine vT ?_ | refine vB ?_))
      rw [cloT_no (by simp at h1; simp [cloB]; omega)]
  · obtain rfl : j = 6 := by simp at h; omega
    (repeat' ((conv => whnf); first | refine stp ?_ ))
    exact Vs.Fin.mk (WkR.of (.sl1 rfl .nil)) (.refl _)
end Go.Proofs.YtigkmijoefibiaaGreat
