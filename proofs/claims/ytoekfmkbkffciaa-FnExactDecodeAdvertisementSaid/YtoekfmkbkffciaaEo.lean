/- Contracts of functions of the program: no statement of the seat is proved here. Each under the conditions that stand in it. -/
import Derived.Test.YtoekfmkbkffciaaEc
set_option linter.all false
namespace Go.Proofs.Ytoekfmkbkffciaa
open Go.Vs Go.Proofs
/-! Advertisements decoded: what is returned is owned -/
abbrev TAw (a : Adve) (ok : Bool) : Arg := (.tup [(true, 4), (false, 1)], Adve.c true a ++ [cB ok])
abbrev TAwo (o : Option Adve) : Arg := match o with
  | none => TAw ⟨0, 0, [], []⟩ false
  | some a => TAw a true
theorem cutJ (s : List Int) (k : Int) : List.take ((s.length : Nat) : Int).toNat (ints (s ++ [k])) = ints s := by
  simp [ints]
theorem plain_ints (l : List Int) : ∀ x ∈ (ints l).flatten, ∃ z, x = AV.v z := by
  intro x hx
  simp only [ints, List.mem_flatten, List.mem_map] at hx
  obtain ⟨y, ⟨n, _, rfl⟩, hx⟩ := hx
  simp only [List.mem_singleton] at hx
  exact ⟨_, hx⟩
set_option maxRecDepth 20000 in
set_option maxHeartbeats 16000000 in
theorem s_DecAdO (b : List UInt8) (hb : b.length ≤ 1048576) : FO 4 [Ys false b] [Ys false b] (TAwo (decAd b)) := by
  refine fok envOk mixed is4 ⟨rfl, rfl, ?_⟩
  have h1 := s_DecodeInts b 0 3 hb (by omega)
  cases e1 : decI b 0 3 with
  | none =>
    rw [e1] at h1
    rw [show decAd b = none by simp [decAd, e1]]
    (repeat' ((conv => whnf); first | refine stp ?_ | refine Cl.mk (h1) ?_ | refine Cl.pre (by simp only [shcLL_ints, shcLL_byts, shcLL_strs, Adve.shcs, Data.shcs, Fetc.shcs, Gran.shcs, Keyy.shcs, Mani.shcs, Name.shcs, Read.shcs, Rout.shcs, Segm.shcs, TEnt.shcs]; rfl) ?_))
    exact Vs.Fin.mk ⟨rfl, .inl (.keep (.keep (.nils (.nils (.keep .nil)))))⟩ (.refl _)
  | some le =>
    obtain ⟨l, e⟩ := le
    have hle := decI_le (by omega) e1
    match l, hle with
    | [o, v, n], hle =>
      rw [e1] at h1
      by_cases hn : n ≤ 6
      · have f1 : decide (n > 6) = false := by simp; omega
        have h2 := s_DecodeInts b e n hb (by omega)
        cases e2 : decI b e n with
        | none =>
          rw [e2] at h2
          have h3 := s_ReadVarint b 0 hb (by omega)
          rw [show decAd b = none by simp [decAd, e1, hn, e2]]
          (repeat' ((conv => whnf); first | refine stp ?_ | refine Cl.mk (h1) ?_ | refine El.mk rfl ?_ | refine Cl.mk (h2) ?_ | refine Cl.mk (h3) ?_ | refine Cl.pre (by simp only [shcLL_ints, shcLL_byts, shcLL_strs, Adve.shcs, Data.shcs, Fetc.shcs, Gran.shcs, Keyy.shcs, Mani.shcs, Name.shcs, Read.shcs, Rout.shcs, Segm.shcs, TEnt.shcs]; rfl) ?_))
          exact Vs.Fin.mk ⟨rfl, .inl (.keep (.keep (.nils (.nils (.keep .nil)))))⟩ (.refl _)
        | some de =>
          obtain ⟨s, e3⟩ := de
          rw [e2] at h2
          have hld := decI_le (by omega) e2
          have h3 := s_ReadVarint b e3 hb (by omega)
          cases hx : rdV (b.drop e3) 0 0 with
          | none =>
            rw [hx] at h3
            replace h3 : FO 13 [Ys false b, I e3] [Ys false b, I e3] (T3 0 0 false) := h3
            rw [show decAd b = none by simp [decAd, e1, hn, e2, hx]]
            (repeat' ((conv => whnf); first | refine stp ?_ | refine Cl.mk (h1) ?_ | refine El.mk rfl ?_ | refine Cl.mk (h2) ?_ | refine Cl.mk (h3) ?_ | refine Cl.pre (by simp only [shcLL_ints, shcLL_byts, shcLL_strs, Adve.shcs, Data.shcs, Fetc.shcs, Gran.shcs, Keyy.shcs, Mani.shcs, Name.shcs, Read.shcs, Rout.shcs, Segm.shcs, TEnt.shcs]; rfl) ?_))
            exact Vs.Fin.mk ⟨rfl, .inl (.keep (.keep (.nils (.nils (.keep .nil)))))⟩ (.refl _)
          | some kc =>
            obtain ⟨k, c⟩ := kc
            rw [hx] at h3
            have hlx := rdV_le _ _ _ _ _ hx
            simp at hlx
            replace h3 : FO 13 [Ys false b, I e3] [Ys false b, I e3] (T3 k ((e3 + c : Nat) : Int) true) := h3
            by_cases hk : k ≤ 4
            · have f2 : decide ((k : Int) > 4) = false := by simp; omega
              rw [show decAd b = fin7 b o v s (rdNs b k (e3 + c) []) by simp [decAd, e1, hn, e2, hx, hk]]
              have hq0 : e3 + c ≤ b.length := by omega
              generalize e3 + c = q0 at h3 hq0 ⊢
              (repeat' ((conv => whnf); first | refine stp ?_ | refine Cl.mk (h1) ?_ | refine El.mk rfl ?_ | refine Cl.mk (h2) ?_ | refine Cl.mk (h3) ?_ | refine Cl.pre (by simp only [shcLL_ints, shcLL_byts, shcLL_strs, Adve.shcs, Data.shcs, Fetc.shcs, Gran.shcs, Keyy.shcs, Mani.shcs, Name.shcs, Read.shcs, Rout.shcs, Segm.shcs, TEnt.shcs]; rfl) ?_))
              refine Lp.mk [.sl 0, .bx 2, .sl 2, .bx 4, .sl 4, .bx 8, .sl 8, .sl 12, .sl 13, .sl 15] (fun m σ => ∃ p i w, fin7 b o v s (rdNs b k q0 []) = fin7 b o v s (rdNs b m p w) ∧ p ≤ b.length ∧ i + m = k ∧ w.length = i ∧ w.all vName = true ∧ σ = [Sa 0 (Ys false b), Bx 2 ([cI 0, cI 0, .sl true .isnil 0 [], .sl true .isnil 0 []]), Pt 2, Bx 4 ([cI 0, cI 0, .sl true .isnil 0 [], .sl true .isnil 0 []]), Pt 4, Bx 8 ([cI o, cI v, cIs true s, sl true 1 (w.map (Name.c true))]), Pt 8, Sa 12 (I k), Sa 13 (I p), Sa 15 (I i)]) (k) _ (.cons (.refl _) (.cons (.refl _) (.cons (.refl _) (.cons (.refl _) (.cons (.refl _) (.cons (.keep (.keep (.keep (.nils .nil)))) (.cons (.refl _) (.cons (.refl _) (.cons (.refl _) (.cons (.refl _) .nil)))))))))) ⟨q0, 0, [], rfl, hq0, by omega, rfl, rfl, (by first | rfl | (simp only [zlen, zsum, Nat.zero_mul, Int.add_zero, Int.sub_zero, List.nil_append, markG]; rfl))⟩ ?_
              rintro m τ ⟨p, i, w, hd, hp, hk3, hw, hv, rfl⟩
              rw [hd]
              clear hd
              have hsz := nms_size hv
              have hnb : s.length ≤ 6 := by omega
              cases m with
              | zero =>
                have f4 : decide ((i : Int) < (k : Int)) = false := by simp; omega
                have hA := s_ValidAdv ⟨o, v, s, w⟩ (show s.length + (w.length + sumN Name.size w) ≤ _ by omega)
                have e5 : fin7 b o v s (rdNs b 0 p w) = if p = b.length ∧ vAdv ⟨o, v, s, w⟩ = true then some ⟨o, v, s, w⟩ else none := rfl
                rw [e5]
                by_cases hpb : p = b.length
                · have f5 : (!((p : Int) == (b.length : Int))) = false := by simp [hpb]
                  cases hva : vAdv ⟨o, v, s, w⟩ with
                  | true =>
                    rw [hva] at hA
                    rw [if_pos ⟨hpb, rfl⟩]
                    (repeat' ((conv => whnf); first | refine stp ?_ | refine Cl.mk (hA) ?_ | refine Cl.pre (by simp only [shcLL_ints, shcLL_byts, shcLL_strs, Adve.shcs, Data.shcs, Fetc.shcs, Gran.shcs, Keyy.shcs, Mani.shcs, Name.shcs, Read.shcs, Rout.shcs, Segm.shcs, TEnt.shcs]; rfl) ?_))
                    exact Vs.Fin.mk ⟨rfl, .inl (.refl _)⟩ (.refl _)
                  | false =>
                    rw [hva] at hA
                    rw [if_neg (fun h => by simp at h)]
                    (repeat' ((conv => whnf); first | refine stp ?_ | refine Cl.mk (hA) ?_ | refine Cl.pre (by simp only [shcLL_ints, shcLL_byts, shcLL_strs, Adve.shcs, Data.shcs, Fetc.shcs, Gran.shcs, Keyy.shcs, Mani.shcs, Name.shcs, Read.shcs, Rout.shcs, Segm.shcs, TEnt.shcs]; rfl) ?_))
                    exact Vs.Fin.mk ⟨rfl, .inl (.keep (.keep (.nils (.nils (.keep .nil)))))⟩ (.refl _)
                · have f5 : (!((p : Int) == (b.length : Int))) = true := by simp; omega
                  rw [if_neg (fun h => hpb h.1)]
                  (repeat' ((conv => whnf); first | refine stp ?_ | refine Cl.mk (hA) ?_ | refine Cl.pre (by simp only [shcLL_ints, shcLL_byts, shcLL_strs, Adve.shcs, Data.shcs, Fetc.shcs, Gran.shcs, Keyy.shcs, Mani.shcs, Name.shcs, Read.shcs, Rout.shcs, Segm.shcs, TEnt.shcs]; rfl) ?_))
                  exact Vs.Fin.mk ⟨rfl, .inl (.keep (.keep (.nils (.nils (.keep .nil)))))⟩ (.refl _)
              | succ m =>
                have f4 : decide ((i : Int) < (k : Int)) = true := by simp; omega
                have hR := s_ReadName b p hb hp
                rw [rdNs]
                cases hy : rdNm b p with
                | none =>
                  rw [hy] at hR
                  (repeat' ((conv => whnf); first | refine stp ?_ | refine Cl.mk (hR) ?_ | refine Cl.pre (by simp only [shcLL_ints, shcLL_byts, shcLL_strs, Adve.shcs, Data.shcs, Fetc.shcs, Gran.shcs, Keyy.shcs, Mani.shcs, Name.shcs, Read.shcs, Rout.shcs, Segm.shcs, TEnt.shcs]; rfl) ?_))
                  exact Vs.Fin.mk ⟨rfl, .inl (.keep (.keep (.nils (.nils (.keep .nil)))))⟩ (.refl _)
                | some ne =>
                  obtain ⟨nm, e9⟩ := ne
                  rw [hy] at hR
                  have hle9 := rdNm_le hp hy
                  (repeat' ((conv => whnf); first | refine stp ?_ | refine Cl.mk (hR) ?_ | refine Rq.mk (by simp; omega) ?_ | refine Cl.pre (by simp only [shcLL_ints, shcLL_byts, shcLL_strs, Adve.shcs, Data.shcs, Fetc.shcs, Gran.shcs, Keyy.shcs, Mani.shcs, Name.shcs, Read.shcs, Rout.shcs, Segm.shcs, TEnt.shcs]; rfl) ?_))
                  refine Nx.intro m (by omega) _ (WkS.weak _ _) ⟨e9, i + 1, w ++ [nm], rfl, by omega, by omega, by simp; omega, by simp [List.all_append, hv, hle9.2], ?_⟩
                  (repeat' (first | exact rfl | refine consE ?_ ?_ | refine entE ?_ | refine vI ?_ | refine vS ?_ | refine vT ?_ | refine vB ?_))
                  all_goals first | (simp; done) | omega
            · have f2 : decide ((k : Int) > 4) = true := by simp; omega
              rw [show decAd b = none by simp [decAd, e1, hn, e2, hx, hk]]
              (repeat' ((conv => whnf); first | refine stp ?_ | refine Cl.mk (h1) ?_ | refine El.mk rfl ?_ | refine Cl.mk (h2) ?_ | refine Cl.mk (h3) ?_ | refine Cl.pre (by simp only [shcLL_ints, shcLL_byts, shcLL_strs, Adve.shcs, Data.shcs, Fetc.shcs, Gran.shcs, Keyy.shcs, Mani.shcs, Name.shcs, Read.shcs, Rout.shcs, Segm.shcs, TEnt.shcs]; rfl) ?_))
              exact Vs.Fin.mk ⟨rfl, .inl (.keep (.keep (.nils (.nils (.keep .nil)))))⟩ (.refl _)
      · have f1 : decide (n > 6) = true := by simp; omega
        rw [show decAd b = none by simp [decAd, e1, hn]]
        (repeat' ((conv => whnf); first | refine stp ?_ | refine Cl.mk (h1) ?_ | refine El.mk rfl ?_ | refine Cl.pre (by simp only [shcLL_ints, shcLL_byts, shcLL_strs, Adve.shcs, Data.shcs, Fetc.shcs, Gran.shcs, Keyy.shcs, Mani.shcs, Name.shcs, Read.shcs, Rout.shcs, Segm.shcs, TEnt.shcs]; rfl) ?_))
        exact Vs.Fin.mk ⟨rfl, .inl (.keep (.keep (.nils (.nils (.keep .nil)))))⟩ (.refl _)
set_option maxRecDepth 20000 in
set_option maxHeartbeats 16000000 in
theorem i_DecAdO (b : List UInt8) (hb : b.length ≤ 1048576) : FO 6 [Ys false b] [Ys false b] (TAwo (decAd b)) := by
  refine fok envOk mixed is6 ⟨rfl, rfl, ?_⟩
  have h1 := i_DecodeInts b 0 3 hb (by omega)
  cases e1 : decI b 0 3 with
  | none =>
    rw [e1] at h1
    rw [show decAd b = none by simp [decAd, e1]]
    (repeat' ((conv => whnf); first | refine stp ?_ | refine Cl.mk (h1) ?_ | refine Cl.pre (by simp only [shcLL_ints, shcLL_byts, shcLL_strs, Adve.shcs, Data.shcs, Fetc.shcs, Gran.shcs, Keyy.shcs, Mani.shcs, Name.shcs, Read.shcs, Rout.shcs, Segm.shcs, TEnt.shcs]; rfl) ?_))
    exact Vs.Fin.mk ⟨rfl, .inl (.keep (.keep (.nils (.nils (.keep .nil)))))⟩ (.refl _)
  | some le =>
    obtain ⟨l, e⟩ := le
    have hle := decI_le (by omega) e1
    have hnn := decI_nn e1
    match l, hle, hnn with
    | [o, v, n], hle, hnn =>
      rw [e1] at h1
      have hn0 : 0 ≤ n := hnn n (by simp)
      by_cases hn : n ≤ 6
      · have f1 : decide (n > 6) = false := by simp; omega
        have h2 := i_DecodeInts b e (n + 1) hb (by omega)
        rw [decI_succ hn0 hn] at h2
        cases e2 : decI b e n with
        | none =>
          rw [e2] at h2
          replace h2 : FO 16 [Ys false b, I e, I (n + 1)] [Ys false b, I e, I (n + 1)] (TIs [] 0 false) := h2
          rw [show decAd b = none by simp [decAd, e1, hn, e2]]
          (repeat' ((conv => whnf); first | refine stp ?_ | refine Cl.mk (h1) ?_ | refine El.mk rfl ?_ | refine Cl.mk (h2) ?_ | refine Cl.pre (by simp only [shcLL_ints, shcLL_byts, shcLL_strs, Adve.shcs, Data.shcs, Fetc.shcs, Gran.shcs, Keyy.shcs, Mani.shcs, Name.shcs, Read.shcs, Rout.shcs, Segm.shcs, TEnt.shcs]; rfl) ?_))
          exact Vs.Fin.mk ⟨rfl, .inl (.keep (.keep (.nils (.nils (.keep .nil)))))⟩ (.refl _)
        | some de =>
          obtain ⟨s, e3⟩ := de
          rw [e2] at h2
          have hld := decI_le (by omega) e2
          cases hx : rdV (b.drop e3) 0 0 with
          | none =>
            simp only [hx] at h2
            replace h2 : FO 16 [Ys false b, I e, I (n + 1)] [Ys false b, I e, I (n + 1)] (TIs [] 0 false) := h2
            rw [show decAd b = none by simp [decAd, e1, hn, e2, hx]]
            (repeat' ((conv => whnf); first | refine stp ?_ | refine Cl.mk (h1) ?_ | refine El.mk rfl ?_ | refine Cl.mk (h2) ?_ | refine Cl.pre (by simp only [shcLL_ints, shcLL_byts, shcLL_strs, Adve.shcs, Data.shcs, Fetc.shcs, Gran.shcs, Keyy.shcs, Mani.shcs, Name.shcs, Read.shcs, Rout.shcs, Segm.shcs, TEnt.shcs]; rfl) ?_))
            exact Vs.Fin.mk ⟨rfl, .inl (.keep (.keep (.nils (.nils (.keep .nil)))))⟩ (.refl _)
          | some kc =>
            obtain ⟨k, c⟩ := kc
            simp only [hx] at h2
            have hlx := rdV_le _ _ _ _ _ hx
            simp at hlx
            obtain rfl : n = (s.length : Int) := by omega
            replace h2 : FO 16 [Ys false b, I e, I ((s.length : Int) + 1)] [Ys false b, I e, I ((s.length : Int) + 1)] (TIs (s ++ [(k : Int)]) ((e3 + c : Nat) : Int) true) := h2
            by_cases hk : k ≤ 4
            · have f2 : decide ((k : Int) > 4) = false := by simp; omega
              rw [show decAd b = fin7 b o v s (rdNs b k (e3 + c) []) by simp [decAd, e1, hn, e2, hx, hk]]
              have hq0 : e3 + c ≤ b.length := by omega
              generalize e3 + c = q0 at h2 hq0 ⊢
              have hsl : (s ++ [(k : Int)]).length = s.length + 1 := by simp
              (repeat' ((conv => whnf); first | refine stp ?_ | refine Cl.mk (h1) ?_ | refine El.mk rfl ?_ | refine Cl.mk (h2) ?_ | refine El.mk (getH (l := s ++ [(k : Int)]) (d := s) (r := []) rfl rfl) ?_ | refine Cl.pre (by simp only [shcLL_ints, shcLL_byts, shcLL_strs, Adve.shcs, Data.shcs, Fetc.shcs, Gran.shcs, Keyy.shcs, Mani.shcs, Name.shcs, Read.shcs, Rout.shcs, Segm.shcs, TEnt.shcs]; rfl) ?_))
              refine Lp.mkA [.sl 0, .bx 2, .sl 2, .sl 5, .bx 9, .sl 9, .sl 71, .sl 72] (fun m σ => ∃ p i w, fin7 b o v s (rdNs b k q0 []) = fin7 b o v s (rdNs b m p w) ∧ p ≤ b.length ∧ i + m = k ∧ w.length = i ∧ w.all vName = true ∧ σ = [Sa 0 (Ys false b), Bx 2 ([cI 0, cI 0, .sl true .isnil 0 [], .sl true .isnil 0 []]), Pt 2, Sa 5 (I p), Bx 9 ([cI o, cI v, cIs true s, sl true 1 (w.map (Name.c true))]), Pt 9, Sa 71 (I k), Sa 72 (I i)]) (k) _ _ (Adp.mk (r := .sl 7) (r' := .bx 9) (c := 0) (c' := 2) rfl rfl (by decide) rfl rfl rfl (plain_ints _) (Nat.le_refl _) (by simp [ints])) (.cons (.refl _) (.cons (.refl _) (.cons (.refl _) (.cons (.refl _) (.cons (.keep (.keep (.keep (.nils .nil)))) (.cons (.refl _) (.cons (.refl _) (.cons (.refl _) .nil)))))))) ⟨q0, 0, [], rfl, hq0, by omega, rfl, rfl, (by first | rfl | (simp only [zlen, zsum, Nat.zero_mul, Int.add_zero, Int.sub_zero, List.nil_append, markG, cutJ]; rfl))⟩ ?_
              rintro m τ ⟨p, i, w, hd, hp, hk3, hw, hv, rfl⟩
              rw [hd]
              clear hd
              have hsz := nms_size hv
              have hnb : s.length ≤ 6 := by omega
              cases m with
              | zero =>
                have f4 : decide ((i : Int) < (k : Int)) = false := by simp; omega
                have hA := i_ValidAdv ⟨o, v, s, w⟩ (show s.length + (w.length + sumN Name.size w) ≤ _ by omega)
                have e5 : fin7 b o v s (rdNs b 0 p w) = if p = b.length ∧ vAdv ⟨o, v, s, w⟩ = true then some ⟨o, v, s, w⟩ else none := rfl
                rw [e5]
                by_cases hpb : p = b.length
                · have f5 : (!((p : Int) == (b.length : Int))) = false := by simp [hpb]
                  cases hva : vAdv ⟨o, v, s, w⟩ with
                  | true =>
                    rw [hva] at hA
                    rw [if_pos ⟨hpb, rfl⟩]
                    (repeat' ((conv => whnf); first | refine stp ?_ | refine Cl.mk (hA) ?_ | refine Cl.pre (by simp only [shcLL_ints, shcLL_byts, shcLL_strs, Adve.shcs, Data.shcs, Fetc.shcs, Gran.shcs, Keyy.shcs, Mani.shcs, Name.shcs, Read.shcs, Rout.shcs, Segm.shcs, TEnt.shcs]; rfl) ?_))
                    exact Vs.Fin.mk ⟨rfl, .inl (.refl _)⟩ (.refl _)
                  | false =>
                    rw [hva] at hA
                    rw [if_neg (fun h => by simp at h)]
                    (repeat' ((conv => whnf); first | refine stp ?_ | refine Cl.mk (hA) ?_ | refine Cl.pre (by simp only [shcLL_ints, shcLL_byts, shcLL_strs, Adve.shcs, Data.shcs, Fetc.shcs, Gran.shcs, Keyy.shcs, Mani.shcs, Name.shcs, Read.shcs, Rout.shcs, Segm.shcs, TEnt.shcs]; rfl) ?_))
                    exact Vs.Fin.mk ⟨rfl, .inl (.keep (.keep (.nils (.nils (.keep .nil)))))⟩ (.refl _)
                · have f5 : (!((p : Int) == (b.length : Int))) = true := by simp; omega
                  rw [if_neg (fun h => hpb h.1)]
                  (repeat' ((conv => whnf); first | refine stp ?_ | refine Cl.mk (hA) ?_ | refine Cl.pre (by simp only [shcLL_ints, shcLL_byts, shcLL_strs, Adve.shcs, Data.shcs, Fetc.shcs, Gran.shcs, Keyy.shcs, Mani.shcs, Name.shcs, Read.shcs, Rout.shcs, Segm.shcs, TEnt.shcs]; rfl) ?_))
                  exact Vs.Fin.mk ⟨rfl, .inl (.keep (.keep (.nils (.nils (.keep .nil)))))⟩ (.refl _)
              | succ m =>
                have f4 : decide ((i : Int) < (k : Int)) = true := by simp; omega
                have hR := i_ReadName b p hb hp
                rw [rdNs]
                cases hy : rdNm b p with
                | none =>
                  rw [hy] at hR
                  (repeat' ((conv => whnf); first | refine stp ?_ | refine Cl.mk (hR) ?_ | refine Cl.pre (by simp only [shcLL_ints, shcLL_byts, shcLL_strs, Adve.shcs, Data.shcs, Fetc.shcs, Gran.shcs, Keyy.shcs, Mani.shcs, Name.shcs, Read.shcs, Rout.shcs, Segm.shcs, TEnt.shcs]; rfl) ?_))
                  exact Vs.Fin.mk ⟨rfl, .inl (.keep (.keep (.nils (.nils (.keep .nil)))))⟩ (.refl _)
                | some ne =>
                  obtain ⟨nm, e9⟩ := ne
                  rw [hy] at hR
                  have hle9 := rdNm_le hp hy
                  (repeat' ((conv => whnf); first | refine stp ?_ | refine Cl.mk (hR) ?_ | refine Rq.mk (by simp; omega) ?_ | refine Cl.pre (by simp only [shcLL_ints, shcLL_byts, shcLL_strs, Adve.shcs, Data.shcs, Fetc.shcs, Gran.shcs, Keyy.shcs, Mani.shcs, Name.shcs, Read.shcs, Rout.shcs, Segm.shcs, TEnt.shcs]; rfl) ?_))
                  refine Nx.intro m (by omega) _ (WkS.weak _ _) ⟨e9, i + 1, w ++ [nm], rfl, by omega, by omega, by simp; omega, by simp [List.all_append, hv, hle9.2], ?_⟩
                  (repeat' (first | exact rfl | refine consE ?_ ?_ | refine entE ?_ | refine vI ?_ | refine vS ?_ | refine vT ?_ | refine vB ?_))
                  all_goals first | (simp; done) | omega
            · have f2 : decide ((k : Int) > 4) = true := by simp; omega
              rw [show decAd b = none by simp [decAd, e1, hn, e2, hx, hk]]
              have hsl : (s ++ [(k : Int)]).length = s.length + 1 := by simp
              (repeat' ((conv => whnf); first | refine stp ?_ | refine Cl.mk (h1) ?_ | refine El.mk rfl ?_ | refine Cl.mk (h2) ?_ | refine El.mk (getH (l := s ++ [(k : Int)]) (d := s) (r := []) rfl rfl) ?_ | refine Cl.pre (by simp only [shcLL_ints, shcLL_byts, shcLL_strs, Adve.shcs, Data.shcs, Fetc.shcs, Gran.shcs, Keyy.shcs, Mani.shcs, Name.shcs, Read.shcs, Rout.shcs, Segm.shcs, TEnt.shcs]; rfl) ?_))
              exact Vs.Fin.mk ⟨rfl, .inl (.keep (.keep (.nils (.nils (.keep .nil)))))⟩ (.refl _)
      · have f1 : decide (n > 6) = true := by simp; omega
        rw [show decAd b = none by simp [decAd, e1, hn]]
        (repeat' ((conv => whnf); first | refine stp ?_ | refine Cl.mk (h1) ?_ | refine El.mk rfl ?_ | refine Cl.pre (by simp only [shcLL_ints, shcLL_byts, shcLL_strs, Adve.shcs, Data.shcs, Fetc.shcs, Gran.shcs, Keyy.shcs, Mani.shcs, Name.shcs, Read.shcs, Rout.shcs, Segm.shcs, TEnt.shcs]; rfl) ?_))
        exact Vs.Fin.mk ⟨rfl, .inl (.keep (.keep (.nils (.nils (.keep .nil)))))⟩ (.refl _)
end Go.Proofs.Ytoekfmkbkffciaa
