/- Contracts of functions of the program: no statement of the seat is proved here. Each under the conditions that stand in it. -/
import Derived.Test.YtigkmijoefibiaaGreatDa
import Derived.Test.YtigkmijoefibiaaGreatGx
set_option linter.all false
namespace Go.Proofs.YtigkmijoefibiaaGreat
open Go.Vs Go.Proofs
abbrev nats (w : List Nat) : List (List AV) := ints (w.map fun (k : Nat) => (k : Int))
theorem getW {w : List Nat} {k : Nat} (h : k < w.length) : (nats w)[((k : Nat) : Int).toNat]? = some [cI ((wI w k : Nat) : Int)] := by
  simp [nats, ints, wI, List.getD_eq_getElem?_getD, h]
theorem natsC {w : List Nat} : ((nats w).length : Int) = (w.length : Int) := by simp
theorem srcA_iff {l : List Adve} {a : Nat} (h : l.any (orig (a : Int)) = true) (v : Nat) : srcA l (a : Int) v = true ↔ v = a := by
  simp only [srcA, h, Bool.and_true, beq_iff_eq]; omega
theorem is110 : FI 110 Tryz.f110 := ⟨⟨Tryz.f110, Tryz.func110, rfl, rfl, rfl, rfl⟩, rfl⟩
set_option maxRecDepth 20000 in
set_option maxHeartbeats 16000000 in
theorem i_Distances (l : List Adve) (a : Int) (hz : l.length + sumN Adve.size l ≤ 1099511627776) : FO 110 [Al l, I a] [Al l, I a] (Is true (distL l a)) := by
  refine fok envOk mixed is110 ⟨rfl, rfl, ?_⟩
  have hfd := i_Find l a hz
  have hge := findI_ge (p := orig a) l 0 (by omega)
  have hlt : decide (findI (orig a) l 0 < 0) = !l.any (orig a) := by
    rw [← hge]
    by_cases h : findI (orig a) l 0 < 0
    · have : ¬ findI (orig a) l 0 ≥ 0 := by omega
      simp [h]
    · have : findI (orig a) l 0 ≥ 0 := by omega
      simp [h]; omega
  (repeat' ((conv => whnf); first | refine stp ?_ | refine Cl.mk (Repeat_6) ?_ | refine Cl.pre (by simp only [shcLL_ints, shcLL_byts, shcLL_strs, Adve.shcs, Fetc.shcs, Gran.shcs, Mani.shcs, Name.shcs, Read.shcs, Segm.shcs]; rfl) ?_))
  refine Rq.mk (by simp [dOwnLL, dOwnL, dOwn]) ?_
  (repeat' ((conv => whnf); first | refine stp ?_ | refine Cl.mk (i_InRange _ _ _) ?_ | refine Cl.pre (by simp only [shcLL_ints, shcLL_byts, shcLL_strs, Adve.shcs, Fetc.shcs, Gran.shcs, Mani.shcs, Name.shcs, Read.shcs, Segm.shcs]; rfl) ?_))
  refine Br.mk (fun h1 => ?_) (fun h1 => ?_)
  · have e : List.replicate 6 (-1) = distL l a := dists_none (fun v hv => by
      simp [inR_f] at h1
      simp only [srcA, Bool.and_eq_false_iff]
      left; simp; omega)
    (repeat' ((conv => whnf); first | refine stp ?_ ))
    refine Vs.Fin.mk (WkR.eq ?_) (.refl _)
    rw [e]
  (repeat' ((conv => whnf); first | refine stp ?_ | refine Cl.mk (hfd) ?_ | refine Cl.pre (by simp only [shcLL_ints, shcLL_byts, shcLL_strs, Adve.shcs, Fetc.shcs, Gran.shcs, Mani.shcs, Name.shcs, Read.shcs, Segm.shcs]; rfl) ?_))
  rw [hlt]
  refine Br.mk (fun h2 => ?_) (fun h2 => ?_)
  · have e : List.replicate 6 (-1) = distL l a := dists_none (fun v hv => by
      simp only [srcA, Bool.and_eq_false_iff]
      right; simpa using h2)
    (repeat' ((conv => whnf); first | refine stp ?_ ))
    refine Vs.Fin.mk (WkR.eq ?_) (.refl _)
    rw [e]
  have hany : l.any (orig a) = true := by simpa using h2
  have ha : 0 ≤ a ∧ a ≤ 5 := by simp [inR_t] at h1; omega
  obtain ⟨c, rfl⟩ : ∃ c : Nat, a = c := ⟨a.toNat, by omega⟩
  have hst := Qu.start (adj := adjA l) (src := srcA l (c : Int)) (a := c) (by omega) (fun v _ => srcA_iff hany v)
  have hl6 : (List.replicate 6 (-1 : Int)).length = 6 := rfl
  generalize List.replicate 6 (-1 : Int) = R0 at hst hl6 ⊢
  (repeat' ((conv => whnf); first | refine stp ?_ | refine El.mk (getG (o := R0) (by omega)) ?_ | refine Cl.pre (by simp only [shcLL_ints, shcLL_byts, shcLL_strs, Adve.shcs, Fetc.shcs, Gran.shcs, Mani.shcs, Name.shcs, Read.shcs, Segm.shcs]; rfl) ?_))
  refine Lp.mk [.sl 0, .sl 5, .sl 6, .sl 7] (fun m σ => ∃ k o w, k + m = 6 ∧ Qu (adjA l) (srcA l (c : Int)) k o w (fun _ => False) ∧ σ = [Sa 0 (Al l), Sa 5 (O (.sl true .unk 1 (ints o))), Sa 6 (O (.sl true .non 1 (nats w))), Sa 7 (I k)]) (6) _ (WkS.weak _ _) ⟨0, R0.set c 0, [c], rfl, hst, (by first | rfl | (simp only [zlen, zsum, Nat.zero_mul, Int.add_zero, Int.sub_zero, List.nil_append, markG, (setG (o := R0) (b := c) (v := 0) (y := gI R0 c)).symm]; rfl))⟩ ?_
  rintro m τ ⟨k, o, w, hk, hq, rfl⟩
  have hw6 := hq.wle
  refine Nm.mk natsC ?_
  refine Br.dec (fun h => ?_) (fun h => ?_)
  · have hkw : k < w.length := by omega
    refine Lp.mk [.sl 0, .sl 5, .sl 6, .sl 7, .sl 32] (fun m σ => ∃ b o w, b + m = 6 ∧ k < w.length ∧ Qu (adjA l) (srcA l (c : Int)) k o w (fun v => v < b) ∧ σ = [Sa 0 (Al l), Sa 5 (O (.sl true .unk 1 (ints o))), Sa 6 (O (.sl true .non 1 (nats w))), Sa 7 (I k), Sa 32 (I b)]) (6) _ (WkS.weak _ _) ⟨0, o, w, rfl, hkw, hq.weaken (fun v _ h => absurd h (Nat.not_lt_zero v)), (by first | rfl | (simp only [zlen, zsum, Nat.zero_mul, Int.add_zero, Int.sub_zero, List.nil_append, markG]; rfl))⟩ ?_
    rintro m2 τ ⟨b, o, w, hb, hkw, hq, rfl⟩
    have hlen := hq.len
    have hw6 := hq.wle
    have hwk := hq.wlt k hkw
    have hpk := hq.pos k hkw
    refine Br.dec (fun h3 => ?_) (fun h3 => ?_)
    · (repeat' ((conv => whnf); first | refine stp ?_ | refine El.mk (getG (by omega)) ?_ | refine Cl.pre (by simp only [shcLL_ints, shcLL_byts, shcLL_strs, Adve.shcs, Fetc.shcs, Gran.shcs, Mani.shcs, Name.shcs, Read.shcs, Segm.shcs]; rfl) ?_))
      refine Br.mk (fun h4 => ?_) (fun h4 => ?_)
      · (repeat' ((conv => whnf); first | refine stp ?_ | refine El.mk (getG (by omega)) ?_ | refine El.mk (getW hkw) ?_ | refine Cl.mk (i_Bid l _ _ hz) ?_ | refine Cl.pre (by simp only [shcLL_ints, shcLL_byts, shcLL_strs, Adve.shcs, Fetc.shcs, Gran.shcs, Mani.shcs, Name.shcs, Read.shcs, Segm.shcs]; rfl) ?_))
        refine Br.mk (fun h5 => ?_) (fun h5 => ?_)
        · (repeat' ((conv => whnf); first | refine stp ?_ | refine El.mk (getG (by omega)) ?_ | refine El.mk (getW hkw) ?_ | refine Cl.pre (by simp only [shcLL_ints, shcLL_byts, shcLL_strs, Adve.shcs, Fetc.shcs, Gran.shcs, Mani.shcs, Name.shcs, Read.shcs, Segm.shcs]; rfl) ?_))
          refine Nx.intro (m2 - 1) (by omega) _ (WkS.weak _ _) ⟨b + 1, o.set b (gI o (wI w k) + 1), w ++ [b], by omega, by simp; omega, (hq.add hkw (by omega) (by simpa using h4) h5).weaken (fun v _ h => by by_cases e : v = b; exact .inr e; exact .inl (by omega)), ?_⟩
          (repeat' (first | exact rfl | refine consE ?_ ?_ | refine entE ?_ | refine vI ?_ | refine vS ?_ | refine vT ?_ | refine vB ?_))
          all_goals first | exact setG | simp
        · (repeat' ((conv => whnf); first | refine stp ?_ ))
          refine Nx.intro (m2 - 1) (by omega) _ (WkS.weak _ _) ⟨b + 1, o, w, by omega, hkw, (hq.skip (b := b) hkw (by omega) (.inr h5)).weaken (fun v _ h => by by_cases e : v = b; exact .inr e; exact .inl (by omega)), ?_⟩
          (repeat' (first | exact rfl | refine consE ?_ ?_ | refine entE ?_ | refine vI ?_ | refine vS ?_ | refine vT ?_ | refine vB ?_))
          all_goals simp
      · (repeat' ((conv => whnf); first | refine stp ?_ ))
        refine Nx.intro (m2 - 1) (by omega) _ (WkS.weak _ _) ⟨b + 1, o, w, by omega, hkw, (hq.skip (b := b) hkw (by omega) (.inl (by simp at h4; omega))).weaken (fun v _ h => by by_cases e : v = b; exact .inr e; exact .inl (by omega)), ?_⟩
        (repeat' (first | exact rfl | refine consE ?_ ?_ | refine entE ?_ | refine vI ?_ | refine vS ?_ | refine vT ?_ | refine vB ?_))
        all_goals simp
    · obtain rfl : b = 6 := by omega
      (repeat' ((conv => whnf); first | refine stp ?_ ))
      refine Nx.intro (m - 1) (by omega) _ (WkS.weak _ _) ⟨k + 1, o, w, by omega, hq.next hkw, ?_⟩
      (repeat' (first | exact rfl | refine consE ?_ ?_ | refine entE ?_ | refine vI ?_ | refine vS ?_ | refine vT ?_ | refine vB ?_))
      all_goals simp
  · have e := hq.fin (by omega)
    (repeat' ((conv => whnf); first | refine stp ?_ ))
    refine Vs.Fin.mk (WkR.eq ?_) (.refl _)
    rw [e]; rfl
end Go.Proofs.YtigkmijoefibiaaGreat
