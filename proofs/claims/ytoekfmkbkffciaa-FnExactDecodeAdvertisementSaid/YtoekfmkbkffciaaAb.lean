/- Contracts of functions of the program: no statement of the seat is proved here. Each under the conditions that stand in it. -/
import Derived.Test.YtoekfmkbkffciaaAa
set_option linter.all false
namespace Go.Proofs.Ytoekfmkbkffciaa
open Go.Vs Go.Proofs
theorem is33 : FI 33 Try.f33 := ⟨⟨Try.f33, Try.func33, rfl, rfl, rfl, rfl⟩, rfl⟩
set_option maxRecDepth 20000 in
set_option maxHeartbeats 16000000 in
theorem i_ValidAdv_1 (x : Name) (hx : strsSize x.parts ≤ 1099511627776) : FO 33 [A (Name.c false x)] [A (Name.c false x)] (B (!vName x)) := by
  refine fok envOk mixed is33 ⟨rfl, rfl, ?_⟩
  (repeat' ((conv => whnf); first | refine stp ?_ | refine Br.mk (fun _ => ?_) (fun _ => ?_) | refine Cl.mk (i_ValidName x hx) ?_ | refine Cl.pre (by simp only [shcLL_ints, shcLL_byts, shcLL_strs, Adve.shcs, Fetc.shcs, Gran.shcs, Mani.shcs, Name.shcs, Read.shcs, Segm.shcs]; rfl) ?_))
  exact Vs.Fin.mk (WkR.refl _) (.refl _)
theorem is18 : FI 18 Try.f18 := ⟨⟨Try.f18, Try.func18, rfl, rfl, rfl, rfl⟩, rfl⟩
set_option maxRecDepth 20000 in
set_option maxHeartbeats 16000000 in
theorem i_ValidAdv (a : Adve) (hz : Adve.size a ≤ 1099511627776) : FO 18 [A (Adve.c false a)] [A (Adve.c false a)] (B (vAdv a)) := by
  refine fok envOk mixed is18 ⟨rfl, rfl, ?_⟩
  have hz1 : a.nbs.length + (a.prefs.length + sumN Name.size a.prefs) ≤ 1099511627776 := hz
  (repeat' ((conv => whnf); first | refine stp ?_ | refine Cl.mk (i_InRange _ _ _) ?_ | refine Cl.pre (by simp only [shcLL_ints, shcLL_byts, shcLL_strs, Adve.shcs, Fetc.shcs, Gran.shcs, Mani.shcs, Name.shcs, Read.shcs, Segm.shcs]; rfl) ?_))
  refine Br.mk (fun h0 => ?_) (fun h0 => ?_)
  · rw [show vAdv a = false by simp_all [vAdv]]
    (repeat' ((conv => whnf); first | refine stp ?_ ))
    exact Vs.Fin.mk (WkR.refl _) (.refl _)
  (repeat' ((conv => whnf); first | refine stp ?_ | refine Cl.mk (i_InRange _ _ _) ?_ | refine Cl.pre (by simp only [shcLL_ints, shcLL_byts, shcLL_strs, Adve.shcs, Fetc.shcs, Gran.shcs, Mani.shcs, Name.shcs, Read.shcs, Segm.shcs]; rfl) ?_))
  refine Br.mk (fun h1 => ?_) (fun h1 => ?_)
  · rw [show vAdv a = false by simp_all [vAdv]]
    (repeat' ((conv => whnf); first | refine stp ?_ ))
    exact Vs.Fin.mk (WkR.refl _) (.refl _)
  (repeat' ((conv => whnf); first | refine stp ?_ ))
  refine Br.mk (fun h2 => ?_) (fun h2 => ?_)
  · rw [show vAdv a = false by (simp at h2; simp [vAdv]; intros; omega)]
    (repeat' ((conv => whnf); first | refine stp ?_ ))
    exact Vs.Fin.mk (WkR.refl _) (.refl _)
  rw [show vAdv a = (nbsOk a.origin none a.nbs && a.prefs.all vName) by simp at h0 h1 h2; simp [vAdv, h0, h1]; intros; omega]
  (repeat' ((conv => whnf); first | refine stp ?_ ))
  refine Lp.mk [.bx 1, .sl 1, .sl 22, .sl 23, .sl 24] (fun m σ => ∃ d r, a.nbs = d ++ r ∧ m = r.length ∧ nbsOk a.origin none a.nbs = nbsOk a.origin d.getLast? r ∧ σ = [Bx 1 ((Adve.c false a)), Pt 1, Sa 22 (Is false a.nbs), Sa 23 (I a.nbs.length), Sa 24 (I d.length)]) (a.nbs.length) _ (WkS.weak _ _) ⟨[], a.nbs, rfl, rfl, rfl, (by first | rfl | (simp only [zlen, zsum, Nat.zero_mul, Int.add_zero, Int.sub_zero, List.nil_append, markG]; rfl))⟩ ?_
  rintro m τ ⟨d, r, hl, rfl, hd, rfl⟩
  have hy : a.nbs.length = d.length + r.length := by rw [hl]; simp
  cases r with
  | nil =>
    refine Br.neg (by simp at *; omega) ?_
    rw [hd, nbsOk, Bool.true_and]
    (repeat' ((conv => whnf); first | refine stp ?_ | refine Cl.mk (ContainsFunc_Name (l := a.prefs) (by omega) (fun x hx => i_ValidAdv_1 x (nm_in (z := 1099511627776) (by omega) hx))) ?_ | refine Cl.pre (by simp only [shcLL_ints, shcLL_byts, shcLL_strs, Adve.shcs, Fetc.shcs, Gran.shcs, Mani.shcs, Name.shcs, Read.shcs, Segm.shcs]; rfl) ?_))
    refine Vs.Fin.mk (WkR.eq ?_) (.refl _)
    rw [List.all_eq_not_any_not]
  | cons x r =>
    simp at hy
    refine Br.pos (by simp; omega) ?_
    rcases lastA d with rfl | ⟨d', q, rfl⟩
    · (repeat' ((conv => whnf); first | refine stp ?_ | refine Br.mk (fun _ => ?_) (fun _ => ?_) | refine El.mk (getH hl rfl) ?_ | refine Cl.mk (i_InRange _ _ _) ?_ | refine Cl.pre (by simp only [shcLL_ints, shcLL_byts, shcLL_strs, Adve.shcs, Fetc.shcs, Gran.shcs, Mani.shcs, Name.shcs, Read.shcs, Segm.shcs]; rfl) ?_))
      all_goals first
        | (refine Vs.Fin.mk (WkR.eq ?_) (.refl _); rw [hd, nbsOk, show okNb a.origin (List.getLast? ([] : List Int)) x = false by first | (simp_all [okNb]; done) | (simp_all [okNb]; omega) | (simp_all [okNb]; intros; omega)]; rfl)
        | (refine Nx.intro r.length (by simp) _ (WkS.weak _ _) ⟨[x], r, by simp [hl], rfl, by rw [hd, nbsOk, show okNb a.origin (List.getLast? ([] : List Int)) x = true by simp_all [okNb]]; rfl, ?_⟩; rfl)
        | (exfalso; simp at * <;> omega)
    · have hl2 : a.nbs = d' ++ q :: (x :: r) := by rw [hl]; simp
      simp at hy
      (repeat' ((conv => whnf); first | refine stp ?_ | refine Br.mk (fun _ => ?_) (fun _ => ?_) | refine El.mk (getH hl rfl) ?_ | refine El.mk (getH hl2 (by simp)) ?_ | refine Cl.mk (i_InRange _ _ _) ?_ | refine Cl.pre (by simp only [shcLL_ints, shcLL_byts, shcLL_strs, Adve.shcs, Fetc.shcs, Gran.shcs, Mani.shcs, Name.shcs, Read.shcs, Segm.shcs]; rfl) ?_))
      all_goals first
        | (refine Vs.Fin.mk (WkR.eq ?_) (.refl _); rw [hd, nbsOk, show okNb a.origin (List.getLast? (d' ++ [q])) x = false by first | (simp_all [okNb]; done) | (simp_all [okNb]; omega) | (simp_all [okNb]; intros; omega)]; rfl)
        | (refine Nx.intro r.length (by simp) _ (WkS.weak _ _) ⟨d' ++ [q] ++ [x], r, by simp [hl], rfl, by rw [hd, nbsOk, show okNb a.origin (List.getLast? (d' ++ [q])) x = true by simp_all [okNb]]; simp, ?_⟩; rw [len1 (d := d' ++ [q]) (x := x)]; rfl)
        | (exfalso; simp at * <;> omega)
end Go.Proofs.Ytoekfmkbkffciaa
