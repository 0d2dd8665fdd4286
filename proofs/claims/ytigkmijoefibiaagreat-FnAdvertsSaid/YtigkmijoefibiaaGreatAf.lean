/- Contracts of functions of the program: no statement of the seat is proved here. Each under the conditions that stand in it. -/
import Derived.Test.YtigkmijoefibiaaGreatAc
import Derived.Test.YtigkmijoefibiaaGreatAe
set_option linter.all false
namespace Go.Proofs.YtigkmijoefibiaaGreat
open Go.Vs Go.Proofs
theorem is117 : FI 117 Tryz.f117 := ⟨⟨Tryz.f117, Tryz.func117, rfl, rfl, rfl, rfl⟩, rfl⟩
set_option maxRecDepth 20000 in
set_option maxHeartbeats 16000000 in
theorem i_Merge_1 (x a : Adve) : FO 117 [A (Adve.c false x), O (.cp (Adve.c false a) 0)] [A (Adve.c false x), O (.cp (Adve.c false a) 0)] (B (decide (x.origin > a.origin))) := by
  refine fok envOk mixed is117 ⟨rfl, rfl, ?_⟩
  (repeat' ((conv => whnf); first | refine stp ?_ ))
  exact Vs.Fin.mk (WkR.refl _) (.refl _)
theorem is46 : FI 46 Tryz.f46 := ⟨⟨Tryz.f46, Tryz.func46, rfl, rfl, rfl, rfl⟩, rfl⟩
set_option maxRecDepth 20000 in
set_option maxHeartbeats 16000000 in
theorem i_Merge (l : List Adve) (a : Adve) (hz : l.length + sumN Adve.size l + Adve.size a ≤ 1048576) : FO 46 [Al l, A (Adve.c false a)] [Al l, A (Adve.c false a)] (AB true (mrgA l a)) := by
  refine fok envOk mixed is46 ⟨rfl, rfl, ?_⟩
  have hA := i_copyDb l (by omega)
  have hC := i_copyAdv a (by omega)
  have hV := i_ValidAdv a (by omega)
  have hD := i_ValidDb l (by omega)
  have hF := i_Find l a.origin (by omega)
  have hX := IndexFunc_Adve1 (l := l) (by omega) (fun x _ => i_Merge_1 x a)
  cases v1 : vAdv a with
  | false =>
    rw [mrg_bad (by simp [v1])]
    rw [v1] at hV
    (repeat' ((conv => whnf); first | refine stp ?_ | refine Cl.mk (hA) ?_ | refine Cl.mk (hV) ?_ | refine Cl.pre (by simp only [shcLL_ints, shcLL_byts, shcLL_strs, Adve.shcs, Fetc.shcs, Gran.shcs, Mani.shcs, Name.shcs, Read.shcs, Segm.shcs]; rfl) ?_))
    exact Vs.Fin.mk (WkR.refl _) (.refl _)
  | true =>
  cases v2 : vDb l with
  | false =>
    rw [mrg_bad (by simp [v2])]
    rw [v1] at hV
    rw [v2] at hD
    (repeat' ((conv => whnf); first | refine stp ?_ | refine Cl.mk (hA) ?_ | refine Cl.mk (hV) ?_ | refine Cl.mk (hD) ?_ | refine Cl.pre (by simp only [shcLL_ints, shcLL_byts, shcLL_strs, Adve.shcs, Fetc.shcs, Gran.shcs, Mani.shcs, Name.shcs, Read.shcs, Segm.shcs]; rfl) ?_))
    exact Vs.Fin.mk (WkR.refl _) (.refl _)
  | true =>
  rw [v1] at hV
  rw [v2] at hD
  rcases find_split (p := orig a.origin) l with ⟨h1, h2⟩ | ⟨d, x, r, e, h2, h3, h4⟩
  · rw [findI_none h1] at hF
    have hne : ∀ x ∈ l, x.origin ≠ a.origin := by
      intro x hx he
      rw [List.any_eq_false] at h1
      exact h1 x hx (by simp [orig, he])
    rcases findS (p := fun x : Adve => decide (x.origin > a.origin)) l with q1 | ⟨d, x, r, e, q2, q3⟩
    · rw [findI_none q1] at hX
      have hlow : ∀ x ∈ l, lowA a x = true := by
        intro x hx
        rw [List.any_eq_false] at q1
        have h5 := q1 x hx
        have h6 := hne x hx
        simp [lowA] at h5 ⊢
        omega
      rw [mrg_ins (by simp [v1, v2]) (show l = l ++ [] by simp) h2 hlow (by simp)]
      have hI := Insert_Adve (l := l) (a := a) (i := l.length) (nf := .non) (by omega) (Nat.le_refl _)
      rw [List.take_length, List.drop_length] at hI
      (repeat' ((conv => whnf); first | refine stp ?_ | refine Cl.mk (hA) ?_ | refine Cl.mk (hV) ?_ | refine Cl.mk (hD) ?_ | refine Cl.mk (hF) ?_ | refine Cl.mk (hX) ?_ | refine Cl.mk (hC) ?_ | refine Cl.mk (hI) ?_ | refine Cl.pre (by simp only [shcLL_ints, shcLL_byts, shcLL_strs, Adve.shcs, Fetc.shcs, Gran.shcs, Mani.shcs, Name.shcs, Read.shcs, Segm.shcs]; rfl) ?_))
      exact Vs.Fin.mk (WkR.refl _) (.refl _)
    · have hy : l.length = d.length + (r.length + 1) := by rw [e]; simp
      have hfi : findI (fun x : Adve => decide (x.origin > a.origin)) l 0 = (d.length : Int) := by
        have := findI_at q2 q3 0 (r := r)
        rw [← e] at this; omega
      rw [hfi] at hX
      have hlow : ∀ x ∈ d, lowA a x = true := by
        intro x hx
        rw [List.any_eq_false] at q2
        have h5 := q2 x hx
        have h6 := hne x (by rw [e]; simp [hx])
        simp [lowA] at h5 ⊢
        omega
      rw [mrg_ins (by simp [v1, v2]) e h2 hlow (by simp at q3; simp [lowA]; omega)]
      have hI := Insert_Adve (l := l) (a := a) (i := d.length) (nf := .non) (by omega) (by omega)
      rw [show l.take d.length = d by rw [e]; simp, show l.drop d.length = x :: r by rw [e]; simp] at hI
      have f1 : decide (((d.length : Nat) : Int) < 0) = false := by simp
      (repeat' ((conv => whnf); first | refine stp ?_ | refine Cl.mk (hA) ?_ | refine Cl.mk (hV) ?_ | refine Cl.mk (hD) ?_ | refine Cl.mk (hF) ?_ | refine Cl.mk (hX) ?_ | refine Cl.mk (hC) ?_ | refine Cl.mk (hI) ?_ | refine Cl.pre (by simp only [shcLL_ints, shcLL_byts, shcLL_strs, Adve.shcs, Fetc.shcs, Gran.shcs, Mani.shcs, Name.shcs, Read.shcs, Segm.shcs]; rfl) ?_))
      exact Vs.Fin.mk (WkR.refl _) (.refl _)
  · rw [find_at e h2 h3] at hF
    have hy : l.length = d.length + (r.length + 1) := by rw [e]; simp
    have f1 : decide (((d.length : Nat) : Int) ≥ 0) = true := by simp
    by_cases hv : a.version ≤ x.version
    · rw [mrg_old e h4 hv]
      (repeat' ((conv => whnf); first | refine stp ?_ | refine Cl.mk (hA) ?_ | refine Cl.mk (hF) ?_ | refine Cl.mk (hV) ?_ | refine Cl.mk (hD) ?_ | refine El.mk (getH e rfl) ?_ | refine Cl.pre (by simp only [shcLL_ints, shcLL_byts, shcLL_strs, Adve.shcs, Fetc.shcs, Gran.shcs, Mani.shcs, Name.shcs, Read.shcs, Segm.shcs]; rfl) ?_))
      refine Br.pos (by simp; omega) ?_
      (repeat' ((conv => whnf); first | refine stp ?_ ))
      exact Vs.Fin.mk (WkR.refl _) (.refl _)
    · rw [mrg_set (by simp [v1, v2]) e h2 h3 h4 hv]
      (repeat' ((conv => whnf); first | refine stp ?_ | refine Cl.mk (hA) ?_ | refine Cl.mk (hF) ?_ | refine Cl.mk (hV) ?_ | refine Cl.mk (hD) ?_ | refine El.mk (getH e rfl) ?_ | refine Cl.pre (by simp only [shcLL_ints, shcLL_byts, shcLL_strs, Adve.shcs, Fetc.shcs, Gran.shcs, Mani.shcs, Name.shcs, Read.shcs, Segm.shcs]; rfl) ?_))
      refine Br.neg (by simp; omega) ?_
      (repeat' ((conv => whnf); first | refine stp ?_ | refine Cl.mk (hC) ?_ | refine El.mk (getH e rfl) ?_ | refine Cl.pre (by simp only [shcLL_ints, shcLL_byts, shcLL_strs, Adve.shcs, Fetc.shcs, Gran.shcs, Mani.shcs, Name.shcs, Read.shcs, Segm.shcs]; rfl) ?_))
      refine Vs.Fin.mk (WkR.of (.sl1 ?_ (.refl _))) (.refl _)
      simp [e]
      rfl
theorem s_MergeS (l : List Adve) (a : Adve) (hz : l.length + sumN Adve.size l + Adve.size a ≤ 1048576) : FO 47 [Al l, A (Adve.c false a)] [Al l, A (Adve.c false a)] (.tup [(false, 1), (false, 1)], [sl false 4 ((mrgA l a).1.map (Adve.c false)), cB (mrgA l a).2]) := by
  have := FOk.wk (res' := (.tup [(false, 1), (false, 1)], shcL [sl true 4 ((mrgA l a).1.map (Adve.c false)), cB (mrgA l a).2])) (s_Merge l a hz) (.refl _) (.refl _) ⟨rfl, .inr (WkL.refl _)⟩
  simpa only [shcL, Vs.shc, shcLL_Ad] using this
end Go.Proofs.YtigkmijoefibiaaGreat
