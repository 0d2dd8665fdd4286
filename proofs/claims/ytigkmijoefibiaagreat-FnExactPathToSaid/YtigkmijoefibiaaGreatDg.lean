/- Contracts of functions of the program: no statement of the seat is proved here. Each under the conditions that stand in it. -/
import Derived.Test.YtigkmijoefibiaaGreatDe
import Derived.Test.YtigkmijoefibiaaGreatDf
set_option linter.all false
namespace Go.Proofs.YtigkmijoefibiaaGreat
open Go.Vs Go.Proofs
noncomputable def nstep (l : List Adve) (a b x : Int) : Int := if 0 ≤ dAt l a x ∧ (b < 0 ∨ dAt l a x < dAt l a b) then x else b
noncomputable def near (l : List Adve) (a : Int) (n : Name) : Int := (prodT l n 6).foldl (nstep l a) (-1)
theorem near_snoc {l : List Adve} {a : Int} {d : List Int} {x : Int} : (d ++ [x]).foldl (nstep l a) (-1) = nstep l a (d.foldl (nstep l a) (-1)) x := by simp
theorem nstep_b {l : List Adve} {a : Int} : ∀ (d : List Int), (∀ x ∈ d, 0 ≤ x) → ∀ b, -1 ≤ b → -1 ≤ d.foldl (nstep l a) b
  | [], _, b, h => h
  | x :: d, hd, b, h => by
    refine nstep_b d (fun y hy => hd y (by simp [hy])) _ ?_
    have := hd x (by simp)
    unfold nstep; split <;> omega
theorem near_b (l : List Adve) (a : Int) (n : Name) : -1 ≤ near l a n := nstep_b _ (fun x hx => prodT_mem hx) _ (by omega)
theorem is34 : FI 34 Tryz.f34 := ⟨⟨Tryz.f34, Tryz.func34, rfl, rfl, rfl, rfl⟩, rfl⟩
set_option maxRecDepth 20000 in
set_option maxHeartbeats 16000000 in
theorem s_Nearest (l : List Adve) (a : Int) (n : Name) (hz : l.length + sumN Adve.size l ≤ 1099511627776) (hn : n.parts.length ≤ 1099511627776) : FO 34 [Al l, I a, A (Name.c false n)] [Al l, I a, A (Name.c false n)] (I (near l a n)) := by
  refine fok envOk mixed is34 ⟨rfl, rfl, ?_⟩
  have hpl := prodT_len l n 6
  (repeat' ((conv => whnf); first | refine stp ?_ | refine Cl.mk (s_Producers l n hz hn) ?_ | refine Cl.pre (by simp only [shcLL_ints, shcLL_byts, shcLL_strs, Adve.shcs, Fetc.shcs, Gran.shcs, Mani.shcs, Name.shcs, Read.shcs, Segm.shcs]; rfl) ?_))
  refine Lp.mk [.sl 0, .sl 1, .sl 7, .sl 8, .sl 9] (fun m σ => ∃ d r, prodT l n 6 = d ++ r ∧ m = r.length ∧ σ = [Sa 0 (Al l), Sa 1 (I a), Sa 7 (I (d.foldl (nstep l a) (-1))), Sa 8 (Is true (prodT l n 6)), Sa 9 (I d.length)]) ((prodT l n 6).length) _ (WkS.weak _ _) ⟨[], prodT l n 6, rfl, rfl, (by first | rfl | (simp only [zlen, zsum, Nat.zero_mul, Int.add_zero, Int.sub_zero, List.nil_append, markG]; rfl))⟩ ?_
  rintro m τ ⟨d, r, hd, rfl, rfl⟩
  have hy : (prodT l n 6).length = d.length + r.length := by rw [hd]; simp
  refine Nm.mk lenC ?_
  cases r with
  | nil =>
    refine Br.neg (by simp at *; omega) ?_
    (repeat' ((conv => whnf); first | refine stp ?_ ))
    refine Vs.Fin.mk (WkR.eq ?_) (.refl _)
    rw [near, hd]; simp
  | cons x r =>
    simp at hy
    refine Br.pos (by simp; omega) ?_
    have hs : ∀ b, b = nstep l a (d.foldl (nstep l a) (-1)) x → (d ++ [x]).foldl (nstep l a) (-1) = b := fun b hb => by rw [near_snoc, hb]
    generalize hB : d.foldl (nstep l a) (-1) = b at hs ⊢
    (repeat' ((conv => whnf); first | refine stp ?_ | refine El.mk (getH hd rfl) ?_ | refine Cl.mk (s_Distance l a x hz) ?_ | refine Cl.pre (by simp only [shcLL_ints, shcLL_byts, shcLL_strs, Adve.shcs, Fetc.shcs, Gran.shcs, Mani.shcs, Name.shcs, Read.shcs, Segm.shcs]; rfl) ?_))
    refine Br.mk (fun h1 => ?_) (fun h1 => ?_)
    · (repeat' ((conv => whnf); first | refine stp ?_ ))
      refine Br.mk (fun h2 => ?_) (fun h2 => ?_)
      · (repeat' ((conv => whnf); first | refine stp ?_ | refine El.mk (getH hd rfl) ?_ | refine Cl.pre (by simp only [shcLL_ints, shcLL_byts, shcLL_strs, Adve.shcs, Fetc.shcs, Gran.shcs, Mani.shcs, Name.shcs, Read.shcs, Segm.shcs]; rfl) ?_))
        refine Nx.intro r.length (by simp) _ (WkS.weak _ _) ⟨d ++ [x], r, by simp [hd], rfl, ?_⟩
        (repeat' (first | exact rfl | refine consE ?_ ?_ | refine entE ?_ | refine vI ?_ | refine vS ?_ | refine vT ?_ | refine vB ?_))
        · rw [hs x]; rw [nstep, if_pos ⟨by simpa using h1, .inl (by simpa using h2)⟩]
        · simp
      · (repeat' ((conv => whnf); first | refine stp ?_ | refine Cl.mk (s_Distance l a b hz) ?_ | refine Cl.pre (by simp only [shcLL_ints, shcLL_byts, shcLL_strs, Adve.shcs, Fetc.shcs, Gran.shcs, Mani.shcs, Name.shcs, Read.shcs, Segm.shcs]; rfl) ?_))
        refine Br.mk (fun h3 => ?_) (fun h3 => ?_)
        · (repeat' ((conv => whnf); first | refine stp ?_ | refine El.mk (getH hd rfl) ?_ | refine Cl.pre (by simp only [shcLL_ints, shcLL_byts, shcLL_strs, Adve.shcs, Fetc.shcs, Gran.shcs, Mani.shcs, Name.shcs, Read.shcs, Segm.shcs]; rfl) ?_))
          refine Nx.intro r.length (by simp) _ (WkS.weak _ _) ⟨d ++ [x], r, by simp [hd], rfl, ?_⟩
          (repeat' (first | exact rfl | refine consE ?_ ?_ | refine entE ?_ | refine vI ?_ | refine vS ?_ | refine vT ?_ | refine vB ?_))
          · rw [hs x]; rw [nstep, if_pos ⟨by simpa using h1, .inr (by simpa using h3)⟩]
          · simp
        · (repeat' ((conv => whnf); first | refine stp ?_ ))
          refine Nx.intro r.length (by simp) _ (WkS.weak _ _) ⟨d ++ [x], r, by simp [hd], rfl, ?_⟩
          (repeat' (first | exact rfl | refine consE ?_ ?_ | refine entE ?_ | refine vI ?_ | refine vS ?_ | refine vT ?_ | refine vB ?_))
          · rw [hs b]; rw [nstep, if_neg (by simp at h2 h3; omega)]
          · simp
    · (repeat' ((conv => whnf); first | refine stp ?_ ))
      refine Nx.intro r.length (by simp) _ (WkS.weak _ _) ⟨d ++ [x], r, by simp [hd], rfl, ?_⟩
      (repeat' (first | exact rfl | refine consE ?_ ?_ | refine entE ?_ | refine vI ?_ | refine vS ?_ | refine vT ?_ | refine vB ?_))
      · rw [hs b]; rw [nstep, if_neg (by simp at h1; omega)]
      · simp
theorem is33 : FI 33 Tryz.f33 := ⟨⟨Tryz.f33, Tryz.func33, rfl, rfl, rfl, rfl⟩, rfl⟩
set_option maxRecDepth 20000 in
set_option maxHeartbeats 16000000 in
theorem i_Nearest (l : List Adve) (a : Int) (n : Name) (hz : l.length + sumN Adve.size l ≤ 1099511627776) (hn : n.parts.length ≤ 1099511627776) : FO 33 [Al l, I a, A (Name.c false n)] [Al l, I a, A (Name.c false n)] (I (near l a n)) := by
  refine fok envOk mixed is33 ⟨rfl, rfl, ?_⟩
  have hpl := prodT_len l n 6
  (repeat' ((conv => whnf); first | refine stp ?_ | refine Cl.mk (i_Producers l n hz hn) ?_ | refine Cl.pre (by simp only [shcLL_ints, shcLL_byts, shcLL_strs, Adve.shcs, Fetc.shcs, Gran.shcs, Mani.shcs, Name.shcs, Read.shcs, Segm.shcs]; rfl) ?_))
  refine Lp.mk [.sl 0, .sl 1, .sl 7, .sl 8, .sl 14, .sl 15, .sl 16] (fun m σ => ∃ d r w, prodT l n 6 = d ++ r ∧ m = r.length ∧ (d.foldl (nstep l a) (-1) < 0 ∨ w = dAt l a (d.foldl (nstep l a) (-1))) ∧ σ = [Sa 0 (Al l), Sa 1 (I a), Sa 7 (I (d.foldl (nstep l a) (-1))), Sa 8 (I w), Sa 14 (Is true (prodT l n 6)), Sa 15 (I (prodT l n 6).length), Sa 16 (I d.length)]) ((prodT l n 6).length) _ (WkS.weak _ _) ⟨[], prodT l n 6, 0, rfl, rfl, .inl (by simp), (by first | rfl | (simp only [zlen, zsum, Nat.zero_mul, Int.add_zero, Int.sub_zero, List.nil_append, markG]; rfl))⟩ ?_
  rintro m τ ⟨d, r, w, hd, rfl, hw, rfl⟩
  have hy : (prodT l n 6).length = d.length + r.length := by rw [hd]; simp
  cases r with
  | nil =>
    refine Br.neg (by simp at *; omega) ?_
    (repeat' ((conv => whnf); first | refine stp ?_ ))
    refine Vs.Fin.mk (WkR.eq ?_) (.refl _)
    rw [near, hd]; simp
  | cons x r =>
    simp at hy
    refine Br.pos (by simp; omega) ?_
    have hs : ∀ b, b = nstep l a (d.foldl (nstep l a) (-1)) x → (d ++ [x]).foldl (nstep l a) (-1) = b := fun b hb => by rw [near_snoc, hb]
    generalize hB : d.foldl (nstep l a) (-1) = b at hs hw ⊢
    (repeat' ((conv => whnf); first | refine stp ?_ | refine El.mk (getH hd rfl) ?_ | refine Cl.mk (i_Distance l a x hz) ?_ | refine Cl.pre (by simp only [shcLL_ints, shcLL_byts, shcLL_strs, Adve.shcs, Fetc.shcs, Gran.shcs, Mani.shcs, Name.shcs, Read.shcs, Segm.shcs]; rfl) ?_))
    refine Br.mk (fun h1 => ?_) (fun h1 => ?_)
    · (repeat' ((conv => whnf); first | refine stp ?_ ))
      refine Br.mk (fun h2 => ?_) (fun h2 => ?_)
      · (repeat' ((conv => whnf); first | refine stp ?_ ))
        have e := hs x (by rw [nstep, if_pos ⟨by simpa using h1, .inl (by simpa using h2)⟩])
        refine Nx.intro r.length (by simp) _ (WkS.weak _ _) ⟨d ++ [x], r, dAt l a x, by simp [hd], rfl, .inr (by rw [e]), ?_⟩
        (repeat' (first | exact rfl | refine consE ?_ ?_ | refine entE ?_ | refine vI ?_ | refine vS ?_ | refine vT ?_ | refine vB ?_))
        · rw [e]
        · simp
      · (repeat' ((conv => whnf); first | refine stp ?_ ))
        have hw2 : w = dAt l a b := by simp at h2; omega
        refine Br.mk (fun h3 => ?_) (fun h3 => ?_)
        · (repeat' ((conv => whnf); first | refine stp ?_ ))
          have e := hs x (by rw [nstep, if_pos ⟨by simpa using h1, .inr (by rw [← hw2]; simpa using h3)⟩])
          refine Nx.intro r.length (by simp) _ (WkS.weak _ _) ⟨d ++ [x], r, dAt l a x, by simp [hd], rfl, .inr (by rw [e]), ?_⟩
          (repeat' (first | exact rfl | refine consE ?_ ?_ | refine entE ?_ | refine vI ?_ | refine vS ?_ | refine vT ?_ | refine vB ?_))
          · rw [e]
          · simp
        · (repeat' ((conv => whnf); first | refine stp ?_ ))
          have e := hs b (by rw [nstep, if_neg (by simp at h2 h3; omega)])
          refine Nx.intro r.length (by simp) _ (WkS.weak _ _) ⟨d ++ [x], r, w, by simp [hd], rfl, by rw [e]; exact hw, ?_⟩
          (repeat' (first | exact rfl | refine consE ?_ ?_ | refine entE ?_ | refine vI ?_ | refine vS ?_ | refine vT ?_ | refine vB ?_))
          · rw [e]
          · simp
    · (repeat' ((conv => whnf); first | refine stp ?_ ))
      have e := hs b (by rw [nstep, if_neg (by simp at h1; omega)])
      refine Nx.intro r.length (by simp) _ (WkS.weak _ _) ⟨d ++ [x], r, w, by simp [hd], rfl, by rw [e]; exact hw, ?_⟩
      (repeat' (first | exact rfl | refine consE ?_ ?_ | refine entE ?_ | refine vI ?_ | refine vS ?_ | refine vT ?_ | refine vB ?_))
      · rw [e]
      · simp
theorem is36 : FI 36 Tryz.f36 := ⟨⟨Tryz.f36, Tryz.func36, rfl, rfl, rfl, rfl⟩, rfl⟩
set_option maxRecDepth 20000 in
set_option maxHeartbeats 16000000 in
theorem s_HasProducer (l : List Adve) (a : Int) (n : Name) (hz : l.length + sumN Adve.size l ≤ 1099511627776) (hn : n.parts.length ≤ 1099511627776) : FO 36 [Al l, I a, A (Name.c false n)] [Al l, I a, A (Name.c false n)] (B (decide (near l a n ≥ 0))) := by
  refine fok envOk mixed is36 ⟨rfl, rfl, ?_⟩
  (repeat' ((conv => whnf); first | refine stp ?_ | refine Br.mk (fun _ => ?_) (fun _ => ?_) | refine Cl.mk (s_Nearest l a n hz hn) ?_ | refine Cl.pre (by simp only [shcLL_ints, shcLL_byts, shcLL_strs, Adve.shcs, Fetc.shcs, Gran.shcs, Mani.shcs, Name.shcs, Read.shcs, Segm.shcs]; rfl) ?_))
  exact ⟨WkR.refl _, .refl _⟩
theorem is35 : FI 35 Tryz.f35 := ⟨⟨Tryz.f35, Tryz.func35, rfl, rfl, rfl, rfl⟩, rfl⟩
set_option maxRecDepth 20000 in
set_option maxHeartbeats 16000000 in
theorem i_HasProducer (l : List Adve) (a : Int) (n : Name) (hz : l.length + sumN Adve.size l ≤ 1099511627776) (hn : n.parts.length ≤ 1099511627776) : FO 35 [Al l, I a, A (Name.c false n)] [Al l, I a, A (Name.c false n)] (B (decide (near l a n ≥ 0))) := by
  refine fok envOk mixed is35 ⟨rfl, rfl, ?_⟩
  have hb := near_b l a n
  have e : (near l a n != -1) = decide (near l a n ≥ 0) := by
    by_cases h : near l a n = -1
    · rw [h]; rfl
    · have h9 : near l a n ≥ 0 := by omega
      have h8 : (near l a n != -1) = true := by simpa using h
      rw [h8]; exact (decide_eq_true h9).symm
  (repeat' ((conv => whnf); first | refine stp ?_ | refine Br.mk (fun _ => ?_) (fun _ => ?_) | refine Cl.mk (i_Nearest l a n hz hn) ?_ | refine Cl.pre (by simp only [shcLL_ints, shcLL_byts, shcLL_strs, Adve.shcs, Fetc.shcs, Gran.shcs, Mani.shcs, Name.shcs, Read.shcs, Segm.shcs]; rfl) ?_))
  rw [← e]
  exact Vs.Fin.mk (WkR.refl _) (.refl _)
end Go.Proofs.YtigkmijoefibiaaGreat
