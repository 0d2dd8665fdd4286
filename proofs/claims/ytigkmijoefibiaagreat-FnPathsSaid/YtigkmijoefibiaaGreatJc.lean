/- Contracts of functions of the program: no statement of the seat is proved here. Each under the conditions that stand in it. -/
import Derived.Test.YtigkmijoefibiaaGreatJa
set_option linter.all false
namespace Go.Proofs.YtigkmijoefibiaaGreat
open Go.Vs Go.Proofs
/-! Routes sorted in their place -/
def cmpR (a b : Rout) : Int := orL [cmpI a.cost b.cost, cmpI a.face b.face]
theorem cmpI_cases (x y : Int) : (cmpI x y = -1 ∧ x < y) ∨ (cmpI x y = 1 ∧ y < x) ∨ (cmpI x y = 0 ∧ x = y) := by
  unfold cmpI
  split
  · exact .inl ⟨rfl, by assumption⟩
  · split
    · exact .inr (.inl ⟨rfl, by omega⟩)
    · exact .inr (.inr ⟨rfl, by omega⟩)
theorem cmpR_lt (a b : Rout) : decide (cmpR a b < 0) = gtR b a := by
  rw [Bool.eq_iff_iff, decide_eq_true_iff]
  simp only [gtR, decide_eq_true_eq, Bool.or_eq_true, Bool.and_eq_true, beq_iff_eq]
  have hv : cmpR a b = if cmpI a.cost b.cost = 0 then (if cmpI a.face b.face = 0 then 0 else cmpI a.face b.face) else cmpI a.cost b.cost := rfl
  rw [hv]
  rcases cmpI_cases a.cost b.cost with ⟨h, k⟩ | ⟨h, k⟩ | ⟨h, k⟩ <;> rcases cmpI_cases a.face b.face with ⟨h2, k2⟩ | ⟨h2, k2⟩ | ⟨h2, k2⟩ <;> rw [h, h2] <;> simp <;> omega
theorem swap_set {α : Type} (a b : List α) (x y : α) : ((a ++ y :: x :: b).set (a.length + 1) y).set a.length x = a ++ x :: y :: b := by
  induction a with
  | nil => simp
  | cons z a ih => simpa using ih
theorem is228 : FI 228 Tryz.f228 := ⟨⟨Tryz.f228, Tryz.func228, rfl, rfl, rfl, rfl⟩, rfl⟩
set_option maxRecDepth 20000 in
set_option maxHeartbeats 16000000 in
theorem isortR (l : List Rout) (hl : l.length ≤ 100000) (g : Nat) (hg : ∀ x y, FO g [A (Rout.c false x), A (Rout.c false y)] [A (Rout.c false x), A (Rout.c false y)] (I (cmpR x y))) : FO 228 [O (sl true 3 (l.map (Rout.c false))), I 0, I l.length, O (.clo g [])] [O (sl true 3 ((srt l).map (Rout.c false))), I 0, I l.length, O (.clo g [])] ((.tup [], [])) := by
  refine fok envOk mixed is228 ⟨rfl, rfl, ?_⟩
  (repeat' ((conv => whnf); first | refine stp ?_ ))
  cases l with
  | nil =>
    refine Lp.mk [.sl 0, .ex 0, .sl 1, .sl 2, .sl 3, .sl 8] (fun m σ => ∃ u : Unit, m = 0 ∧ σ = [Rf 0 0, Ex 0 (O (sl true 3 (([] : List Rout).map (Rout.c false)))), Sa 1 (I 0), Sa 2 (I ([] : List Rout).length), Sa 3 (O (.clo g [])), Sa 8 (I 1)]) (0) _ (WkS.weak _ _) ⟨(), rfl, (by first | rfl | (simp only [zlen, zsum, Nat.zero_mul, Int.add_zero, Int.sub_zero, List.nil_append, markG]; rfl))⟩ ?_
    rintro m τ ⟨-, rfl, rfl⟩
    refine Br.neg (by simp) ?_
    (repeat' ((conv => whnf); first | refine stp ?_ ))
    exact Vs.Fin.mk (WkR.refl _) (.refl _)
  | cons x0 l0 =>
    refine Lp.mk [.sl 0, .ex 0, .sl 1, .sl 2, .sl 3, .sl 8] (fun m σ => ∃ d r, x0 :: l0 = d ++ r ∧ m = r.length ∧ 1 ≤ d.length ∧ σ = [Rf 0 0, Ex 0 (O (sl true 3 ((srt d ++ r).map (Rout.c false)))), Sa 1 (I 0), Sa 2 (I (x0 :: l0).length), Sa 3 (O (.clo g [])), Sa 8 (I d.length)]) (l0.length) _ (WkS.weak _ _) ⟨[x0], l0, rfl, rfl, by simp, (by first | rfl | (simp only [zlen, zsum, Nat.zero_mul, Int.add_zero, Int.sub_zero, List.nil_append, markG]; rfl))⟩ ?_
    rintro m τ ⟨d, r, hd, rfl, h1, rfl⟩
    have hy : (x0 :: l0).length = d.length + r.length := by rw [hd]; simp
    cases r with
    | nil =>
      refine Br.neg (by simp at *; omega) ?_
      (repeat' ((conv => whnf); first | refine stp ?_ ))
      simp only [List.append_nil] at hd
      rw [hd, List.append_nil]
      exact Vs.Fin.mk (WkR.refl _) (.refl _)
    | cons x r =>
      simp at hy
      refine Br.pos (by simp; omega) ?_
      (repeat' ((conv => whnf); first | refine stp ?_ ))
      refine Lp.mk [.sl 0, .ex 0, .sl 1, .sl 2, .sl 3, .sl 8, .sl 9] (fun m σ => ∃ e f, srt d = e ++ f ∧ m = e.length ∧ (∀ y ∈ f, gtR y x = true) ∧ σ = [Rf 0 0, Ex 0 (O (sl true 3 ((e ++ x :: (f ++ r)).map (Rout.c false)))), Sa 1 (I 0), Sa 2 (I (x0 :: l0).length), Sa 3 (O (.clo g [])), Sa 8 (I d.length), Sa 9 (I e.length)]) (d.length) _ (WkS.weak _ _) ⟨srt d, [], by simp, by rw [srt_len], by simp, (by first | rfl | (simp only [zlen, zsum, Nat.zero_mul, Int.add_zero, Int.sub_zero, List.nil_append, markG, srt_len]; rfl))⟩ ?_
      rintro m2 τ ⟨e, f, he, rfl, hf, rfl⟩
      have hef : d.length = e.length + f.length := by have := srt_len d; rw [he] at this; simpa using this.symm
      have hnext : (∀ e' y, e = e' ++ [y] → gtR y x = false) → srt (d ++ [x]) = e ++ x :: f := fun h => by rw [srt_snoc, he]; exact putR_at hf h
      rcases lastD e with rfl | ⟨e', y, rfl⟩
      · have f0 : decide ((([] : List Rout).length : Int) > 0) = false := by simp
        (repeat' ((conv => whnf); first | refine stp ?_ ))
        refine Nx.intro r.length (by simp) _ (WkS.weak _ _) ⟨d ++ [x], r, by simp [hd], rfl, by simp, ?_⟩
        rw [hnext (by intro a b h; simp at h)]
        (repeat' (first | exact rfl | refine consE ?_ ?_ | refine entE ?_ | refine vI ?_ | refine vS ?_ | refine vT ?_ | refine vB ?_))
        all_goals simp
      · have f0 : decide (((e' ++ [y]).length : Int) > 0) = true := by simp
        have e1 : (((e' ++ [y]).length : Nat) : Int) - 1 = (e'.length : Int) := by simp
        have hz : (e' ++ [y]) ++ x :: (f ++ r) = e' ++ y :: (x :: (f ++ r)) := by simp
        have hS : ∀ z, (((((e' ++ [y]) ++ x :: (f ++ r)).map (Rout.c false)).set ((((e' ++ [y]).length : Nat) : Int)).toNat z))[((((e' ++ [y]).length : Nat) : Int) - 1).toNat]? = some (Rout.c false y) := fun z => by
          rw [List.getElem?_set_ne (by simp)]; exact getH hz e1
        have hcm := hg x y
        have hlt : (e' ++ [y]).length < ((e' ++ [y]) ++ x :: (f ++ r)).length := by simp
        cases hc : gtR y x with
        | false =>
          have f1 : decide (cmpR x y < 0) = false := by rw [cmpR_lt, hc]
          (repeat' ((conv => whnf); first | refine stp ?_ | refine Rq.mk ⟨by omega, by rw [List.length_map]; omega⟩ ?_ | refine El.mk (getH (d := e' ++ [y]) (x := x) (r := f ++ r) rfl rfl) ?_ | refine El.mk (getH hz e1) ?_ | refine Cl.mk (hcm) ?_ | refine Cl.pre (by simp only [shcLL_ints, shcLL_byts, shcLL_strs, Adve.shcs, Fetc.shcs, Gran.shcs, Keyy.shcs, Link.shcs, Mani.shcs, Name.shcs, Read.shcs, Rout.shcs, Segm.shcs, TEnt.shcs, Topo.shcs]; rfl) ?_))
          refine Nx.intro r.length (by simp) _ (WkS.weak _ _) ⟨d ++ [x], r, by simp [hd], rfl, by simp, ?_⟩
          rw [hnext (fun a b h => by
            have := List.append_inj' h rfl
            simp at this
            rw [← this.2]; exact hc)]
          (repeat' (first | exact rfl | refine consE ?_ ?_ | refine entE ?_ | refine vI ?_ | refine vS ?_ | refine vT ?_ | refine vB ?_))
          all_goals simp
        | true =>
          have f1 : decide (cmpR x y < 0) = true := by rw [cmpR_lt, hc]
          (repeat' ((conv => whnf); first | refine stp ?_ | refine Rq.mk ⟨by omega, by rw [List.length_map]; omega⟩ ?_ | refine El.mk (getH (d := e' ++ [y]) (x := x) (r := f ++ r) rfl rfl) ?_ | refine El.mk (getH hz e1) ?_ | refine El.mk (hS _) ?_ | refine Cl.mk (hcm) ?_ | refine Cl.pre (by simp only [shcLL_ints, shcLL_byts, shcLL_strs, Adve.shcs, Fetc.shcs, Gran.shcs, Keyy.shcs, Link.shcs, Mani.shcs, Name.shcs, Read.shcs, Rout.shcs, Segm.shcs, TEnt.shcs, Topo.shcs]; rfl) ?_))
          refine Nx.intro e'.length (by simp) _ (WkS.weak _ _) ⟨e', y :: f, by simp [he], rfl, ?_, ?_⟩
          · intro z hz
            rcases List.mem_cons.1 hz with rfl | hz
            · exact hc
            · exact hf z hz
          (repeat' (first | exact rfl | refine consE ?_ ?_ | refine entE ?_ | refine vI ?_ | refine vS ?_ | refine vT ?_ | refine vB ?_))
          · show (((((e' ++ [y]) ++ x :: (f ++ r)).map (Rout.c false)).set ((((e' ++ [y]).length : Nat) : Int)).toNat (Rout.c false y))).set ((((e' ++ [y]).length : Nat) : Int) - 1).toNat (Rout.c false x) = _
            have k0 : ((e' ++ [y]) ++ x :: (f ++ r)).map (Rout.c false) = e'.map (Rout.c false) ++ Rout.c false y :: Rout.c false x :: (f ++ r).map (Rout.c false) := by simp
            have k1 : ((((e' ++ [y]).length : Nat) : Int)).toNat = (e'.map (Rout.c false)).length + 1 := by simp
            have k2 : ((((e' ++ [y]).length : Nat) : Int) - 1).toNat = (e'.map (Rout.c false)).length := by simp
            rw [k0, k1, k2, swap_set]
            simp
          · exact e1
theorem is213 : FI 213 Tryz.f213 := ⟨⟨Tryz.f213, Tryz.func213, rfl, rfl, rfl, rfl⟩, rfl⟩
set_option maxRecDepth 20000 in
set_option maxHeartbeats 16000000 in
theorem stableR (l : List Rout) (hl : l.length ≤ 19) (g : Nat) (hg : ∀ x y, FO g [A (Rout.c false x), A (Rout.c false y)] [A (Rout.c false x), A (Rout.c false y)] (I (cmpR x y))) : FO 213 [O (sl true 3 (l.map (Rout.c false))), I l.length, O (.clo g [])] [O (sl true 3 ((srt l).map (Rout.c false))), I l.length, O (.clo g [])] ((.tup [], [])) := by
  refine fok envOk mixed is213 ⟨rfl, rfl, ?_⟩
  (repeat' ((conv => whnf); first | refine stp ?_ ))
  refine Lp.mk [.sl 0, .ex 0, .sl 1, .sl 2, .sl 6, .sl 7, .sl 8] (fun m σ => ∃ u : Unit, m = 0 ∧ σ = [Rf 0 0, Ex 0 (O (sl true 3 (l.map (Rout.c false)))), Sa 1 (I l.length), Sa 2 (O (.clo g [])), Sa 6 (I 20), Sa 7 (I 0), Sa 8 (I 20)]) (0) _ (WkS.weak _ _) ⟨(), rfl, (by first | rfl | (simp only [zlen, zsum, Nat.zero_mul, Int.add_zero, Int.sub_zero, List.nil_append, markG]; rfl))⟩ ?_
  rintro m τ ⟨-, rfl, rfl⟩
  refine Br.neg (by simp; omega) ?_
  (repeat' ((conv => whnf); first | refine stp ?_ | refine Cl.mk (isortR l (by omega) g hg) ?_ | refine Cl.pre (by simp only [shcLL_ints, shcLL_byts, shcLL_strs, Adve.shcs, Fetc.shcs, Gran.shcs, Keyy.shcs, Link.shcs, Mani.shcs, Name.shcs, Read.shcs, Rout.shcs, Segm.shcs, TEnt.shcs, Topo.shcs]; rfl) ?_))
  refine Lp.mk [.sl 0, .ex 0, .sl 1, .sl 2, .sl 6] (fun m σ => ∃ u : Unit, m = 0 ∧ σ = [Rf 0 0, Ex 0 (O (sl true 3 ((srt l).map (Rout.c false)))), Sa 1 (I l.length), Sa 2 (O (.clo g [])), Sa 6 (I 20)]) (0) _ (WkS.weak _ _) ⟨(), rfl, (by first | rfl | (simp only [zlen, zsum, Nat.zero_mul, Int.add_zero, Int.sub_zero, List.nil_append, markG]; rfl))⟩ ?_
  rintro m τ ⟨-, rfl, rfl⟩
  refine Br.neg (by simp; omega) ?_
  (repeat' ((conv => whnf); first | refine stp ?_ ))
  exact Vs.Fin.mk (WkR.refl _) (.refl _)
theorem is164 : FI 164 Tryz.f164 := ⟨⟨Tryz.f164, Tryz.func164, rfl, rfl, rfl, rfl⟩, rfl⟩
set_option maxRecDepth 20000 in
set_option maxHeartbeats 16000000 in
theorem sortR (l : List Rout) (hl : l.length ≤ 19) (g : Nat) (hg : ∀ x y, FO g [A (Rout.c false x), A (Rout.c false y)] [A (Rout.c false x), A (Rout.c false y)] (I (cmpR x y))) : FO 164 [O (sl true 3 (l.map (Rout.c false))), O (.clo g [])] [O (sl true 3 ((srt l).map (Rout.c false))), O (.clo g [])] ((.tup [], [])) := by
  refine fok envOk mixed is164 ⟨rfl, rfl, ?_⟩
  (repeat' ((conv => whnf); first | refine stp ?_ | refine Cl.mk (stableR l hl g hg) ?_ | refine Cl.pre (by simp only [shcLL_ints, shcLL_byts, shcLL_strs, Adve.shcs, Fetc.shcs, Gran.shcs, Keyy.shcs, Link.shcs, Mani.shcs, Name.shcs, Read.shcs, Rout.shcs, Segm.shcs, TEnt.shcs, Topo.shcs]; rfl) ?_))
  exact Vs.Fin.mk (WkR.refl _) (.refl _)
end Go.Proofs.YtigkmijoefibiaaGreat
