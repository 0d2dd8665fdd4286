/- Contracts of functions of the program: no statement of the seat is proved here. Each under the conditions that stand in it. -/
import Derived.Test.YtigkmijoefibiaaGreatDa
set_option linter.all false
namespace Go.Proofs.YtigkmijoefibiaaGreat
open Go.Vs Go.Proofs
theorem bidA_nat (l : List Adve) (u v : Nat) : bidA l (u : Int) (v : Int) = adjA l u v := rfl
/-- The search by rounds, its three loops kept apart. -/
theorem dist_walk (l : List Adve) (a : Int) : ∃ R : Nat → List Int, R 0 = dist0 (srcA l a) 6 ∧ R 6 = distL l a ∧ ∀ s, ∃ M : Nat → List Int, M 0 = R s ∧ M 6 = R (s + 1) ∧ ∀ b, ∃ F : Nat → List Int, F 0 = M b ∧ F 6 = M (b + 1) ∧ (∀ x, (F x).length = 6) ∧
    (∀ x, F (x + 1) = if gI (F x) b = ((s + 1 : Nat) : Int) - 1 ∧ gI (F x) x < 0 ∧ bidA l (b : Int) (x : Int) = true then (F x).set x ((s + 1 : Nat) : Int) else F x) ∧
    (∀ x, gI (F x) b ≠ ((s + 1 : Nat) : Int) - 1 → ∀ k, F (x + k) = F x) := by
  refine ⟨rounds (adjA l) (dist0 (srcA l a) 6), rfl, (distL_def l a).symm, fun s => ⟨mid (adjA l) (s + 1) (rounds (adjA l) (dist0 (srcA l a) 6) s), rfl, rfl, fun b => ⟨inn (adjA l) (s + 1) b (mid (adjA l) (s + 1) (rounds (adjA l) (dist0 (srcA l a) 6) s) b), rfl, rfl, ?_, fun x => rfl, fun x => inn_stop⟩⟩⟩
  intro x
  rw [inn_len, mid_len, rounds_len]
  exact dist0_len _ _
theorem is180 : FI 180 Tryz.f180 := ⟨⟨Tryz.f180, Tryz.func180, rfl, rfl, rfl, rfl⟩, rfl⟩
set_option maxRecDepth 20000 in
set_option maxHeartbeats 16000000 in
theorem s_Distances (l : List Adve) (a : Int) (hz : l.length + sumN Adve.size l ≤ 1099511627776) : FO 180 [Al l, I a] [Al l, I a] (Is true (distL l a)) := by
  refine fok envOk mixed is180 ⟨rfl, rfl, ?_⟩
  have hfd := s_Find l a hz
  have hge := findI_ge (p := orig a) l 0 (by omega)
  refine Lp.mk [.sl 0, .sl 1, .sl 5, .sl 6] (fun m σ => ∃ j, j + m = 6 ∧ σ = [Sa 0 (Al l), Sa 1 (I a), Sa 5 (O (.sl true .non 1 (ints (dist0 (srcA l a) j)))), Sa 6 (I j)]) (6) _ (WkS.weak _ _) ⟨0, rfl, (by first | rfl | (simp only [zlen, zsum, Nat.zero_mul, Int.add_zero, Int.sub_zero, List.nil_append, markG]; rfl))⟩ ?_
  rintro m τ ⟨j, hj, rfl⟩
  have hlen := dist0_len (srcA l a) j
  refine Br.dec (fun h => ?_) (fun h => ?_)
  · (conv => whnf)
    (repeat' ((conv => whnf); first | refine stp ?_ ))
    refine Br.mk (fun h1 => ?_) (fun h1 => ?_)
    · (repeat' ((conv => whnf); first | refine stp ?_ | refine Cl.mk (hfd) ?_ | refine Cl.pre (by simp only [shcLL_ints, shcLL_byts, shcLL_strs, Adve.shcs, Fetc.shcs, Gran.shcs, Mani.shcs, Name.shcs, Read.shcs, Segm.shcs]; rfl) ?_))
      rw [hge]
      refine Br.mk (fun h2 => ?_) (fun h2 => ?_)
      · (repeat' ((conv => whnf); first | refine stp ?_ ))
        refine Nx.intro (m - 1) (by omega) _ (WkS.weak _ _) ⟨j + 1, by omega, ?_⟩
        (repeat' (first | exact rfl | refine consE ?_ ?_ | refine entE ?_ | refine vI ?_ | refine vS ?_ | refine vT ?_ | refine vB ?_))
        rw [dist0_succ, show srcA l a j = true by simp only [srcA, h1, h2]; rfl]; simp
      · (repeat' ((conv => whnf); first | refine stp ?_ ))
        refine Nx.intro (m - 1) (by omega) _ (WkS.weak _ _) ⟨j + 1, by omega, ?_⟩
        (repeat' (first | exact rfl | refine consE ?_ ?_ | refine entE ?_ | refine vI ?_ | refine vS ?_ | refine vT ?_ | refine vB ?_))
        rw [dist0_succ, show srcA l a j = false by simp only [srcA, h1, h2]; rfl]; simp
    · (repeat' ((conv => whnf); first | refine stp ?_ ))
      refine Nx.intro (m - 1) (by omega) _ (WkS.weak _ _) ⟨j + 1, by omega, ?_⟩
      (repeat' (first | exact rfl | refine consE ?_ ?_ | refine entE ?_ | refine vI ?_ | refine vS ?_ | refine vT ?_ | refine vB ?_))
      rw [dist0_succ, show srcA l a j = false by simp only [srcA, h1]; rfl]; simp
  obtain rfl : j = 6 := by omega
  obtain ⟨R, r0, r6, hR⟩ := dist_walk l a
  rw [← r0]
  rw [← r6]
  clear r0 r6 hge hfd hlen
  refine Lp.mk [.sl 0, .sl 5, .sl 8] (fun m σ => ∃ s, s + m = 6 ∧ σ = [Sa 0 (Al l), Sa 5 (O (.sl true .non 1 (ints (R s)))), Sa 8 (I ((s + 1 : Nat) : Int))]) (6) _ (WkS.weak _ _) ⟨0, rfl, (by first | rfl | (simp only [zlen, zsum, Nat.zero_mul, Int.add_zero, Int.sub_zero, List.nil_append, markG]; rfl))⟩ ?_
  rintro m τ ⟨s, hs, rfl⟩
  obtain ⟨M, m0, m6, hM⟩ := hR s
  clear hR
  refine Br.dec (fun h => ?_) (fun h => ?_)
  · rw [← m0]
    refine Lp.mk [.sl 0, .sl 5, .sl 8, .sl 9] (fun m σ => ∃ b, b + m = 6 ∧ σ = [Sa 0 (Al l), Sa 5 (O (.sl true .non 1 (ints (M b)))), Sa 8 (I ((s + 1 : Nat) : Int)), Sa 9 (I b)]) (6) _ (WkS.weak _ _) ⟨0, rfl, (by first | rfl | (simp only [zlen, zsum, Nat.zero_mul, Int.add_zero, Int.sub_zero, List.nil_append, markG]; rfl))⟩ ?_
    rintro m2 τ ⟨b, hb, rfl⟩
    obtain ⟨F, f0, f6, hl, hst, hsp⟩ := hM b
    clear hM
    refine Br.dec (fun h2 => ?_) (fun h2 => ?_)
    · rw [← f0]
      refine Lp.mk [.sl 0, .sl 5, .sl 8, .sl 9, .sl 10] (fun m σ => ∃ x, x + m = 6 ∧ σ = [Sa 0 (Al l), Sa 5 (O (.sl true .non 1 (ints (F x)))), Sa 8 (I ((s + 1 : Nat) : Int)), Sa 9 (I b), Sa 10 (I x)]) (6) _ (WkS.weak _ _) ⟨0, rfl, (by first | rfl | (simp only [zlen, zsum, Nat.zero_mul, Int.add_zero, Int.sub_zero, List.nil_append, markG]; rfl))⟩ ?_
      rintro m3 τ ⟨x, hx, rfl⟩
      have hil : (F x).length = 6 := hl x
      have his := hst x
      have hsx := hsp x
      clear hst hsp
      refine Br.mk (fun h3 => ?_) (fun h3 => ?_)
      · have hx6 : x < 6 := by simp at h3; omega
        (repeat ((conv => whnf); refine Br.pos h3 ?_))
        (conv => whnf)
        refine Rq.mk ⟨by omega, by rw [List.length_map]; omega⟩ ?_
        (repeat ((conv => whnf); refine Br.pos h3 ?_))
        (conv => whnf)
        refine El.mk (getG (by omega)) ?_
        (repeat ((conv => whnf); refine Br.pos h3 ?_))
        (conv => whnf)
        refine Nm.mk (wrapI (by omega) (by omega)) ?_
        (repeat ((conv => whnf); refine Br.pos h3 ?_))
        (conv => whnf)
        refine Br.mk (fun h4 => ?_) (fun h4 => ?_)
        · (repeat ((conv => whnf); refine Br.pos h4 ?_))
          (conv => whnf)
          refine Rq.mk ⟨by omega, by rw [List.length_map]; omega⟩ ?_
          (conv => whnf)
          refine El.mk (getG (by omega)) ?_
          (conv => whnf)
          refine Br.mk (fun h5 => ?_) (fun h5 => ?_)
          · (repeat ((conv => whnf); refine Br.pos h5 ?_))
            (conv => whnf)
            refine Cl.mk (s_Bid l _ _ hz) ?_
            (repeat ((conv => whnf); refine Br.pos h5 ?_))
            (conv => whnf)
            refine Br.mk (fun h6 => ?_) (fun h6 => ?_)
            · (conv => whnf)
              refine Rq.mk ⟨by omega, by rw [List.length_map]; omega⟩ ?_
              (conv => whnf)
              refine El.mk (getG (by omega)) ?_
              (conv => whnf)
              refine Nm.mk (wrapI (by omega) (by omega)) ?_
              (conv => whnf)
              rw [if_pos ⟨by simpa using h4, by simpa using h5, h6⟩] at his
              refine Nx.intro (m3 - 1) (by omega) _ (WkS.weak _ _) ⟨x + 1, by omega, ?_⟩
              rw [his]
              (repeat' (first | exact rfl | refine consE ?_ ?_ | refine entE ?_ | refine vI ?_ | refine vS ?_ | refine vT ?_ | refine vB ?_))
              all_goals first | exact setG | exact setG.symm | simp [ints, spliceAV]
            · (conv => whnf)
              refine Nm.mk (wrapI (by omega) (by omega)) ?_
              (conv => whnf)
              rw [if_neg (fun hh => by rw [h6] at hh; simp at hh)] at his
              refine Nx.intro (m3 - 1) (by omega) _ (WkS.weak _ _) ⟨x + 1, by omega, ?_⟩
              rw [his]
              (repeat' (first | exact rfl | refine consE ?_ ?_ | refine entE ?_ | refine vI ?_ | refine vS ?_ | refine vT ?_ | refine vB ?_))
              all_goals simp
          · (repeat ((conv => whnf); first | refine Br.tt ?_ | refine Br.ff ?_ | refine Br.pos (by assumption) ?_ | refine Br.neg (by assumption) ?_))
            refine Nm.mk (wrapI (by omega) (by omega)) ?_
            (conv => whnf)
            rw [if_neg (fun hh => by simp at h5; omega)] at his
            refine Nx.intro (m3 - 1) (by omega) _ (WkS.weak _ _) ⟨x + 1, by omega, ?_⟩
            rw [his]
            (repeat' (first | exact rfl | refine consE ?_ ?_ | refine entE ?_ | refine vI ?_ | refine vS ?_ | refine vT ?_ | refine vB ?_))
            all_goals simp
        · (repeat ((conv => whnf); first | refine Br.tt ?_ | refine Br.ff ?_ | refine Br.pos (by assumption) ?_ | refine Br.neg (by assumption) ?_))
          refine Nm.mk (wrapI (by omega) (by omega)) ?_
          (conv => whnf)
          refine Nx.intro (m2 - 1) (by omega) _ (WkS.weak _ _) ⟨b + 1, by omega, ?_⟩
          rw [← f6, show (6 : Nat) = x + m3 by omega, hsx (by simpa using h4) m3]
          (repeat' (first | exact rfl | refine consE ?_ ?_ | refine entE ?_ | refine vI ?_ | refine vS ?_ | refine vT ?_ | refine vB ?_))
          all_goals simp
      · obtain rfl : x = 6 := by simp at h3; omega
        (repeat ((conv => whnf); first | refine Br.tt ?_ | refine Br.ff ?_ | refine Br.pos (by assumption) ?_ | refine Br.neg (by assumption) ?_))
        refine Nm.mk (wrapI (by omega) (by omega)) ?_
        (conv => whnf)
        refine Nx.intro (m2 - 1) (by omega) _ (WkS.weak _ _) ⟨b + 1, by omega, ?_⟩
        rw [← f6]
        (repeat' (first | exact rfl | refine consE ?_ ?_ | refine entE ?_ | refine vI ?_ | refine vS ?_ | refine vT ?_ | refine vB ?_))
        all_goals simp
    · obtain rfl : b = 6 := by omega
      rw [m6]
      (repeat' ((conv => whnf); first | refine stpo ?_ | refine Rq.mk ⟨by omega, by rw [List.length_map]; omega⟩ ?_ | refine Cl.pre (by simp only [shcLL_ints, shcLL_byts, shcLL_strs, Adve.shcs, Fetc.shcs, Gran.shcs, Mani.shcs, Name.shcs, Read.shcs, Segm.shcs]; rfl) ?_))
      refine Nx.intro (m - 1) (by omega) _ (WkS.weak _ _) ⟨s + 1, by omega, ?_⟩
      (repeat' (first | exact rfl | refine consE ?_ ?_ | refine entE ?_ | refine vI ?_ | refine vS ?_ | refine vT ?_ | refine vB ?_))
  · obtain rfl : s = 6 := by omega
    (repeat' ((conv => whnf); first | refine stpo ?_ | refine Rq.mk ⟨by omega, by rw [List.length_map]; omega⟩ ?_ | refine Cl.pre (by simp only [shcLL_ints, shcLL_byts, shcLL_strs, Adve.shcs, Fetc.shcs, Gran.shcs, Mani.shcs, Name.shcs, Read.shcs, Segm.shcs]; rfl) ?_))
    refine Vs.Fin.mk (WkR.of (.sl1 rfl .nil)) (.refl _)
end Go.Proofs.YtigkmijoefibiaaGreat
