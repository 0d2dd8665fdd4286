/- Contracts of functions of the program: no statement of the seat is proved here. Each under the conditions that stand in it. -/
import Derived.Test.YtigkmijoefibiaaGreatDd
import Derived.Test.YtigkmijoefibiaaGreatSb
set_option linter.all false
namespace Go.Proofs.YtigkmijoefibiaaGreat
open Go.Vs Go.Proofs
/-! Producers -/
def toldA (n : Name) (x : Adve) : Bool := x.prefs.any fun p => hasPre n p
def told (l : List Adve) (n : Name) (k : Nat) : Bool := match l.find? (orig (k : Int)) with
  | none => false
  | some x => toldA n x
def prodT (l : List Adve) (n : Name) (j : Nat) : List Int := ((List.range j).filter (told l n)).map fun (k : Nat) => (k : Int)
theorem prodT_zero (l : List Adve) (n : Name) : prodT l n 0 = [] := rfl
theorem prodT_yes {l : List Adve} {n : Name} {j : Nat} (h : told l n j = true) : prodT l n (j + 1) = prodT l n j ++ [(j : Int)] := by
  simp [prodT, List.range_succ, List.filter_append, List.filter_cons, h]
theorem prodT_no {l : List Adve} {n : Name} {j : Nat} (h : told l n j = false) : prodT l n (j + 1) = prodT l n j := by
  simp [prodT, List.range_succ, List.filter_append, List.filter_cons, h]
theorem prodT_len (l : List Adve) (n : Name) (j : Nat) : (prodT l n j).length ≤ j := by
  have := List.length_filter_le (told l n) (List.range j)
  simp at this
  simpa [prodT] using this
theorem prodT_mem {l : List Adve} {n : Name} {j : Nat} {x : Int} (h : x ∈ prodT l n j) : 0 ≤ x := by
  simp only [prodT, List.mem_map] at h
  obtain ⟨k, -, rfl⟩ := h
  omega
theorem pf_len {x : Adve} {p : Name} {z : Nat} (hz : x.prefs.length + sumN Name.size x.prefs ≤ z) (h : p ∈ x.prefs) : p.parts.length ≤ z := by
  have := sumN_mem Name.size h
  have h2 : Name.size p = strsSize p.parts := rfl
  unfold strsSize at h2
  omega
theorem is109 : FI 109 Tryz.f109 := ⟨⟨Tryz.f109, Tryz.func109, rfl, rfl, rfl, rfl⟩, rfl⟩
set_option maxRecDepth 20000 in
set_option maxHeartbeats 16000000 in
theorem s_l22Told (x : Adve) (n : Name) (hz : x.prefs.length + sumN Name.size x.prefs ≤ 1099511627776) (hn : n.parts.length ≤ 1099511627776) : FO 109 [A (Adve.c false x), A (Name.c false n)] [A (Adve.c false x), A (Name.c false n)] (B (toldA n x)) := by
  refine fok envOk mixed is109 ⟨rfl, rfl, ?_⟩
  refine Lp.mk [.bx 2, .sl 2, .bx 3, .sl 3, .sl 5] (fun m σ => ∃ d r, x.prefs = d ++ r ∧ m = r.length ∧ (d.any fun p => hasPre n p) = false ∧ σ = [Bx 2 ((Adve.c false x)), Pt 2, Bx 3 ((Name.c false n)), Pt 3, Sa 5 (I d.length)]) (x.prefs.length) _ (WkS.weak _ _) ⟨[], x.prefs, rfl, rfl, rfl, (by first | rfl | (simp only [zlen, zsum, Nat.zero_mul, Int.add_zero, Int.sub_zero, List.nil_append, markG]; rfl))⟩ ?_
  rintro m τ ⟨d, r, hd, rfl, hno, rfl⟩
  have hy : x.prefs.length = d.length + r.length := by rw [hd]; simp
  refine Nm.mk lenC ?_
  cases r with
  | nil =>
    refine Br.neg (by simp at *; omega) ?_
    (repeat' ((conv => whnf); first | refine stp ?_ | refine Br.mk (fun _ => ?_) (fun _ => ?_) ))
    refine Vs.Fin.mk (WkR.eq ?_) (.refl _)
    have e : x.prefs = d := by simp [hd]
    rw [toldA, e, hno]
  | cons p r =>
    simp at hy
    have hp := pf_len hz (p := p) (by rw [hd]; simp)
    refine Br.pos (by simp; omega) ?_
    (repeat' ((conv => whnf); first | refine stp ?_ | refine El.mk (getH hd rfl) ?_ | refine Cl.mk (s_HasPrefix n p hn hp) ?_ | refine Cl.pre (by simp only [shcLL_ints, shcLL_byts, shcLL_strs, Adve.shcs, Fetc.shcs, Gran.shcs, Mani.shcs, Name.shcs, Read.shcs, Segm.shcs]; rfl) ?_))
    refine Br.mk (fun h => ?_) (fun h => ?_)
    · (repeat' ((conv => whnf); first | refine stp ?_ ))
      refine Vs.Fin.mk (WkR.eq ?_) (.refl _)
      have e : toldA n x = true := by rw [toldA, List.any_eq_true]; exact ⟨p, by rw [hd]; simp, h⟩
      rw [e]
    · (repeat' ((conv => whnf); first | refine stp ?_ ))
      refine Nx.intro r.length (by simp) _ (WkS.weak _ _) ⟨d ++ [p], r, by simp [hd], rfl, by simp_all, ?_⟩
      rw [len1]; rfl
theorem is41 : FI 41 Tryz.f41 := ⟨⟨Tryz.f41, Tryz.func41, rfl, rfl, rfl, rfl⟩, rfl⟩
set_option maxRecDepth 20000 in
set_option maxHeartbeats 16000000 in
theorem s_Producers (l : List Adve) (n : Name) (hz : l.length + sumN Adve.size l ≤ 1099511627776) (hn : n.parts.length ≤ 1099511627776) : FO 41 [Al l, A (Name.c false n)] [Al l, A (Name.c false n)] (Is true (prodT l n 6)) := by
  refine fok envOk mixed is41 ⟨rfl, rfl, ?_⟩
  refine Lp.mk [.sl 0, .bx 3, .sl 3, .sl 5, .sl 6] (fun m σ => ∃ j, j + m = 6 ∧ σ = [Sa 0 (Al l), Bx 3 ((Name.c false n)), Pt 3, Sa 5 (O (.sl true .non 1 (ints (prodT l n j)))), Sa 6 (I j)]) (6) _ (WkS.weak _ _) ⟨0, rfl, (by first | rfl | (simp only [zlen, zsum, Nat.zero_mul, Int.add_zero, Int.sub_zero, List.nil_append, markG, prodT_zero]; rfl))⟩ ?_
  rintro m τ ⟨j, hj, rfl⟩
  have hpl := prodT_len l n j
  have h9 := s_Find l j hz
  refine Br.dec (fun h => ?_) (fun h => ?_)
  · rcases find_split (p := orig (j : Int)) l with ⟨h1, h2⟩ | ⟨d, x, r, e, h2, h3, h4⟩
    · rw [findI_none h1] at h9
      (repeat' ((conv => whnf); first | refine stp ?_ | refine Cl.mk (h9) ?_ | refine Cl.pre (by simp only [shcLL_ints, shcLL_byts, shcLL_strs, Adve.shcs, Fetc.shcs, Gran.shcs, Mani.shcs, Name.shcs, Read.shcs, Segm.shcs]; rfl) ?_))
      refine Nx.intro (m - 1) (by omega) _ (WkS.weak _ _) ⟨j + 1, by omega, ?_⟩
      (repeat' (first | exact rfl | refine consE ?_ ?_ | refine entE ?_ | refine vI ?_ | refine vS ?_ | refine vT ?_ | refine vB ?_))
      rw [prodT_no (by simp [told, h2])]
    · rw [find_at e h2 h3] at h9
      have hx := (ad_len hz (x := x) (by rw [e]; simp)).2.2
      have hl : l.length = d.length + (r.length + 1) := by rw [e]; simp
      have f1 : decide ((d.length : Int) ≥ 0) = true := by simp
      (repeat' ((conv => whnf); first | refine stp ?_ | refine Cl.mk (h9) ?_ | refine El.mk (getH e rfl) ?_ | refine Cl.mk (s_l22Told x n hx hn) ?_ | refine Cl.pre (by simp only [shcLL_ints, shcLL_byts, shcLL_strs, Adve.shcs, Fetc.shcs, Gran.shcs, Mani.shcs, Name.shcs, Read.shcs, Segm.shcs]; rfl) ?_))
      refine Br.mk (fun h5 => ?_) (fun h5 => ?_)
      · (repeat' ((conv => whnf); first | refine stp ?_ ))
        refine Nx.intro (m - 1) (by omega) _ (WkS.weak _ _) ⟨j + 1, by omega, ?_⟩
        (repeat' (first | exact rfl | refine consE ?_ ?_ | refine entE ?_ | refine vI ?_ | refine vS ?_ | refine vT ?_ | refine vB ?_))
        rw [prodT_yes (by simp only [told, h4]; exact h5)]; simp
      · (repeat' ((conv => whnf); first | refine stp ?_ ))
        refine Nx.intro (m - 1) (by omega) _ (WkS.weak _ _) ⟨j + 1, by omega, ?_⟩
        (repeat' (first | exact rfl | refine consE ?_ ?_ | refine entE ?_ | refine vI ?_ | refine vS ?_ | refine vT ?_ | refine vB ?_))
        rw [prodT_no (by simp only [told, h4]; exact h5)]
  · obtain rfl : j = 6 := by omega
    (repeat' ((conv => whnf); first | refine stp ?_ ))
    exact Vs.Fin.mk (WkR.of (.sl1 rfl .nil)) (.refl _)
theorem is107 : FI 107 Tryz.f107 := ⟨⟨Tryz.f107, Tryz.func107, rfl, rfl, rfl, rfl⟩, rfl⟩
set_option maxRecDepth 20000 in
set_option maxHeartbeats 16000000 in
theorem i_Producers_1 (p n : Name) (hp : p.parts.length ≤ 1099511627776) (hn : n.parts.length ≤ 1099511627776) : FO 107 [A (Name.c false p), O (.cp (Name.c false n) 0)] [A (Name.c false p), O (.cp (Name.c false n) 0)] (B (hasPre n p)) := by
  refine fok envOk mixed is107 ⟨rfl, rfl, ?_⟩
  (repeat' ((conv => whnf); first | refine stp ?_ | refine Br.mk (fun _ => ?_) (fun _ => ?_) | refine Cl.mk (i_HasPrefix n p hn hp) ?_ | refine Cl.pre (by simp only [shcLL_ints, shcLL_byts, shcLL_strs, Adve.shcs, Fetc.shcs, Gran.shcs, Mani.shcs, Name.shcs, Read.shcs, Segm.shcs]; rfl) ?_))
  exact ⟨WkR.refl _, .refl _⟩
theorem is40 : FI 40 Tryz.f40 := ⟨⟨Tryz.f40, Tryz.func40, rfl, rfl, rfl, rfl⟩, rfl⟩
set_option maxRecDepth 20000 in
set_option maxHeartbeats 16000000 in
theorem i_Producers (l : List Adve) (n : Name) (hz : l.length + sumN Adve.size l ≤ 1099511627776) (hn : n.parts.length ≤ 1099511627776) : FO 40 [Al l, A (Name.c false n)] [Al l, A (Name.c false n)] (Is true (prodT l n 6)) := by
  refine fok envOk mixed is40 ⟨rfl, rfl, ?_⟩
  (repeat' ((conv => whnf); first | refine stp ?_ ))
  refine Lp.mk [.sl 0, .bx 3, .sl 3, .sl 5, .sl 9] (fun m σ => ∃ j, j + m = 6 ∧ σ = [Sa 0 (Al l), Bx 3 ((Name.c false n)), Pt 3, Sa 5 (O (.sl true .non 1 (ints (prodT l n j)))), Sa 9 (I j)]) (6) _ (WkS.weak _ _) ⟨0, rfl, (by first | rfl | (simp only [zlen, zsum, Nat.zero_mul, Int.add_zero, Int.sub_zero, List.nil_append, markG, prodT_zero]; rfl))⟩ ?_
  rintro m τ ⟨j, hj, rfl⟩
  have hpl := prodT_len l n j
  have h9 := i_Find l j hz
  refine Br.dec (fun h => ?_) (fun h => ?_)
  · rcases find_split (p := orig (j : Int)) l with ⟨h1, h2⟩ | ⟨d, x, r, e, h2, h3, h4⟩
    · rw [findI_none h1] at h9
      (repeat' ((conv => whnf); first | refine stp ?_ | refine Cl.mk (h9) ?_ | refine Cl.pre (by simp only [shcLL_ints, shcLL_byts, shcLL_strs, Adve.shcs, Fetc.shcs, Gran.shcs, Mani.shcs, Name.shcs, Read.shcs, Segm.shcs]; rfl) ?_))
      refine Nx.intro (m - 1) (by omega) _ (WkS.weak _ _) ⟨j + 1, by omega, ?_⟩
      (repeat' (first | exact rfl | refine consE ?_ ?_ | refine entE ?_ | refine vI ?_ | refine vS ?_ | refine vT ?_ | refine vB ?_))
      · rw [prodT_no (by simp [told, h2])]
      all_goals simp
    · rw [find_at e h2 h3] at h9
      have hx := (ad_len hz (x := x) (by rw [e]; simp)).2.2
      have hl : l.length = d.length + (r.length + 1) := by rw [e]; simp
      have f1 : decide ((d.length : Int) ≥ 0) = true := by simp
      (repeat' ((conv => whnf); first | refine stp ?_ | refine Cl.mk (h9) ?_ | refine El.mk (getH e rfl) ?_ | refine Cl.mk (ContainsFunc_Name1 (l := x.prefs) (by omega) (fun p hp => i_Producers_1 p n (pf_len hx hp) hn)) ?_ | refine Cl.pre (by simp only [shcLL_ints, shcLL_byts, shcLL_strs, Adve.shcs, Fetc.shcs, Gran.shcs, Mani.shcs, Name.shcs, Read.shcs, Segm.shcs]; rfl) ?_))
      refine Br.mk (fun h5 => ?_) (fun h5 => ?_)
      · (repeat' ((conv => whnf); first | refine stp ?_ ))
        refine Nx.intro (m - 1) (by omega) _ (WkS.weak _ _) ⟨j + 1, by omega, ?_⟩
        (repeat' (first | exact rfl | refine consE ?_ ?_ | refine entE ?_ | refine vI ?_ | refine vS ?_ | refine vT ?_ | refine vB ?_))
        · rw [prodT_yes (by simp only [told, h4]; exact h5)]; simp
        all_goals simp
      · (repeat' ((conv => whnf); first | refine stp ?_ ))
        refine Nx.intro (m - 1) (by omega) _ (WkS.weak _ _) ⟨j + 1, by omega, ?_⟩
        (repeat' (first | exact rfl | refine consE ?_ ?_ | refine entE ?_ | refine vI ?_ | refine vS ?_ | refine vT ?_ | refine vB ?_))
        · rw [prodT_no (by simp only [told, h4]; exact h5)]
        all_goals simp
  · obtain rfl : j = 6 := by omega
    (repeat' ((conv => whnf); first | refine stp ?_ ))
    exact Vs.Fin.mk (WkR.of (.sl1 rfl .nil)) (.refl _)
end Go.Proofs.YtigkmijoefibiaaGreat
