/- Contracts of functions of the program: no statement of the seat is proved here. Each under the conditions that stand in it. -/
import Derived.Test.YtoekfmkbkffciaaEb
import Derived.Test.YtoekfmkbkffciaaAb
set_option linter.all false
namespace Go.Proofs.Ytoekfmkbkffciaa
open Go.Vs Go.Proofs
/-! Advertisements encoded, decoded -/
def rdNs (b : List UInt8) : Nat → Nat → List Name → Option (List Name × Nat)
  | 0, q, o => some (o, q)
  | n + 1, q, o => match rdNm b q with
    | none => none
    | some (x, e) => rdNs b n e (o ++ [x])
def fin7 (b : List UInt8) (o v : Int) (s : List Int) (r : Option (List Name × Nat)) : Option Adve := match r with
  | none => none
  | some (ps, e) => if e = b.length ∧ vAdv ⟨o, v, s, ps⟩ = true then some ⟨o, v, s, ps⟩ else none
def decAd (b : List UInt8) : Option Adve := match decI b 0 3 with
  | some ([o, v, n], e) => if n ≤ 6 then (match decI b e n with
    | none => none
    | some (s, e1) => match rdV (b.drop e1) 0 0 with
      | none => none
      | some (k, c) => if k ≤ 4 then fin7 b o v s (rdNs b k (e1 + c) []) else none) else none
  | _ => none
abbrev TAs (a : Adve) (ok : Bool) : Arg := (.tup [(true, 4), (false, 1)], Adve.c false a ++ [cB ok])
abbrev TAo (o : Option Adve) : Arg := match o with
  | none => TAs ⟨0, 0, [], []⟩ false
  | some a => TAs a true
theorem decA_nn {b : List UInt8} : ∀ (n q : Nat) (o l : List Int) (e : Nat), (∀ x ∈ o, 0 ≤ x) → decA b n q o = some (l, e) → ∀ x ∈ l, 0 ≤ x
  | 0, q, o, l, e, h0, h => by simp [decA] at h; rw [← h.1]; exact h0
  | n + 1, q, o, l, e, h0, h => by
    rw [decA] at h
    split at h
    · cases h
    · rename_i x c hx
      exact decA_nn n _ _ l e (fun y hy => by
        rcases List.mem_append.1 hy with h | h
        · exact h0 y h
        · simp at h; omega) h
theorem decI_nn {b : List UInt8} {q : Nat} {n : Int} {l : List Int} {e : Nat} (h : decI b q n = some (l, e)) : ∀ x ∈ l, 0 ≤ x := by
  unfold decI at h
  split at h
  · exact decA_nn _ _ _ _ _ (by simp) h
  · cases h
theorem decA_succ {b : List UInt8} : ∀ (n q : Nat) (o : List Int), decA b (n + 1) q o = (match decA b n q o with
    | none => none
    | some (l, e) => match rdV (b.drop e) 0 0 with
      | none => none
      | some (x, c) => some (l ++ [(x : Int)], e + c))
  | 0, q, o => by
    simp only [decA]
    cases rdV (b.drop q) 0 0 <;> rfl
  | n + 1, q, o => by
    rw [decA]
    conv => rhs; rw [decA]
    cases hx : rdV (b.drop q) 0 0 with
    | none => rfl
    | some xc =>
      obtain ⟨x, c⟩ := xc
      exact decA_succ n (q + c) _
theorem decI_succ {b : List UInt8} {q : Nat} {n : Int} (h0 : 0 ≤ n) (h1 : n ≤ 6) : decI b q (n + 1) = (match decI b q n with
    | none => none
    | some (l, e) => match rdV (b.drop e) 0 0 with
      | none => none
      | some (x, c) => some (l ++ [(x : Int)], e + c)) := by
  have e1 : inR (n + 1) 0 100 = true := inR_t.2 (by omega)
  have e2 : inR n 0 100 = true := inR_t.2 (by omega)
  have e3 : (n + 1).toNat = n.toNat + 1 := by omega
  unfold decI
  rw [if_pos e1, if_pos e2, e3, decA_succ]
theorem nms_size {w : List Name} (h : w.all vName = true) : sumN Name.size w ≤ 54 * w.length := by
  induction w with
  | nil => simp [sumN]
  | cons x w ih =>
    simp only [List.all_cons, Bool.and_eq_true] at h
    have h1 := ih h.2
    have h2 := vName_b h.1
    have h3 := strs_size_le h2.2
    have e : Name.size x = strsSize x.parts := rfl
    simp only [sumN, List.length_cons]
    omega
theorem cutI (s : List Int) (k : Int) : List.drop (Int.toNat 0) (List.take ((s.length : Nat) : Int).toNat (ints (s ++ [k]))) = ints s := by
  simp [ints]
theorem cutI2 (s : List Int) (k : Int) : List.drop (Int.toNat 0) (List.take s.length (ints (s ++ [k]))) = ints s := by
  simp [ints]
theorem is4 : FI 4 Try.f4 := ⟨⟨Try.f4, Try.func4, rfl, rfl, rfl, rfl⟩, rfl⟩
set_option maxRecDepth 20000 in
set_option maxHeartbeats 16000000 in
theorem s_DecAd (b : List UInt8) (hb : b.length ≤ 1048576) : FO 4 [Ys false b] [Ys false b] (TAo (decAd b)) := by
  refine fok envOk mixed is4 ⟨rfl, rfl, ?_⟩
  have h1 := s_DecodeInts b 0 3 hb (by omega)
  cases e1 : decI b 0 3 with
  | none =>
    rw [e1] at h1
    rw [show decAd b = none by simp [decAd, e1]]
    (repeat' ((conv => whnf); first | refine stp ?_ | refine Cl.mk (h1) ?_ | refine Cl.pre (by simp only [shcLL_ints, shcLL_byts, shcLL_strs, Adve.shcs, Data.shcs, Fetc.shcs, Gran.shcs, Keyy.shcs, Mani.shcs, Name.shcs, Read.shcs, Rout.shcs, Segm.shcs, TEnt.shcs]; rfl) ?_))
    exact Vs.Fin.mk ⟨rfl, .inr (.keep (.keep (.nils (.nils (.keep .nil)))))⟩ (.refl _)
  | some le =>
    obtain ⟨l, e⟩ := le
    have hle := decI_le (by omega) e1
    match l, hle with
    | [o, v, n], hle =>
      rw [e1] at h1
      by_cases hn : n ≤ 6
      · have f1 : decide (n > 6) = false := by simp; omega
        have h2 := s_DecodeInts b e n hb (by omega)
        cases e2 : decI b e n with
        | none =>
          rw [e2] at h2
          have h3 := s_ReadVarint b 0 hb (by omega)
          rw [show decAd b = none by simp [decAd, e1, hn, e2]]
          (repeat' ((conv => whnf); first | refine stp ?_ | refine Cl.mk (h1) ?_ | refine El.mk rfl ?_ | refine Cl.mk (h2) ?_ | refine Cl.mk (h3) ?_ | refine Cl.pre (by simp only [shcLL_ints, shcLL_byts, shcLL_strs, Adve.shcs, Data.shcs, Fetc.shcs, Gran.shcs, Keyy.shcs, Mani.shcs, Name.shcs, Read.shcs, Rout.shcs, Segm.shcs, TEnt.shcs]; rfl) ?_))
          exact Vs.Fin.mk ⟨rfl, .inr (.keep (.keep (.nils (.nils (.keep .nil)))))⟩ (.refl _)
        | some de =>
          obtain ⟨s, e3⟩ := de
          rw [e2] at h2
          have hld := decI_le (by omega) e2
          have h3 := s_ReadVarint b e3 hb (by omega)
          cases hx : rdV (b.drop e3) 0 0 with
          | none =>
            rw [hx] at h3
            replace h3 : FO 13 [Ys false b, I e3] [Ys false b, I e3] (T3 0 0 false) := h3
            rw [show decAd b = none by simp [decAd, e1, hn, e2, hx]]
            (repeat' ((conv => whnf); first | refine stp ?_ | refine Cl.mk (h1) ?_ | refine El.mk rfl ?_ | refine Cl.mk (h2) ?_ | refine Cl.mk (h3) ?_ | refine Cl.pre (by simp only [shcLL_ints, shcLL_byts, shcLL_strs, Adve.shcs, Data.shcs, Fetc.shcs, Gran.shcs, Keyy.shcs, Mani.shcs, Name.shcs, Read.shcs, Rout.shcs, Segm.shcs, TEnt.shcs]; rfl) ?_))
            exact Vs.Fin.mk ⟨rfl, .inr (.keep (.keep (.nils (.nils (.keep .nil)))))⟩ (.refl _)
          | some kc =>
            obtain ⟨k, c⟩ := kc
            rw [hx] at h3
            have hlx := rdV_le _ _ _ _ _ hx
            simp at hlx
            replace h3 : FO 13 [Ys false b, I e3] [Ys false b, I e3] (T3 k ((e3 + c : Nat) : Int) true) := h3
            by_cases hk : k ≤ 4
            · have f2 : decide ((k : Int) > 4) = false := by simp; omega
              rw [show decAd b = fin7 b o v s (rdNs b k (e3 + c) []) by simp [decAd, e1, hn, e2, hx, hk]]
              have hq0 : e3 + c ≤ b.length := by omega
              generalize e3 + c = q0 at h3 hq0 ⊢
              (repeat' ((conv => whnf); first | refine stp ?_ | refine Cl.mk (h1) ?_ | refine El.mk rfl ?_ | refine Cl.mk (h2) ?_ | refine Cl.mk (h3) ?_ | refine Cl.pre (by simp only [shcLL_ints, shcLL_byts, shcLL_strs, Adve.shcs, Data.shcs, Fetc.shcs, Gran.shcs, Keyy.shcs, Mani.shcs, Name.shcs, Read.shcs, Rout.shcs, Segm.shcs, TEnt.shcs]; rfl) ?_))
              refine Lp.mk [.sl 0, .bx 2, .sl 2, .bx 4, .sl 4, .bx 8, .sl 8, .sl 12, .sl 13, .sl 15] (fun m σ => ∃ p i w, fin7 b o v s (rdNs b k q0 []) = fin7 b o v s (rdNs b m p w) ∧ p ≤ b.length ∧ i + m = k ∧ w.length = i ∧ w.all vName = true ∧ σ = [Sa 0 (Ys false b), Bx 2 ([cI 0, cI 0, .sl true .isnil 0 [], .sl true .isnil 0 []]), Pt 2, Bx 4 ([cI 0, cI 0, .sl true .isnil 0 [], .sl true .isnil 0 []]), Pt 4, Bx 8 ([cI o, cI v, cIs true s, sl true 1 (w.map (Name.c true))]), Pt 8, Sa 12 (I k), Sa 13 (I p), Sa 15 (I i)]) (k) _ (.cons (.refl _) (.cons (.refl _) (.cons (.refl _) (.cons (.refl _) (.cons (.refl _) (.cons (.keep (.keep (.keep (.nils .nil)))) (.cons (.refl _) (.cons (.refl _) (.cons (.refl _) (.cons (.refl _) .nil)))))))))) ⟨q0, 0, [], rfl, hq0, by omega, rfl, rfl, (by first | rfl | (simp only [zlen, zsum, Nat.zero_mul, Int.add_zero, Int.sub_zero, List.nil_append, markG]; rfl))⟩ ?_
              rintro m τ ⟨p, i, w, hd, hp, hk3, hw, hv, rfl⟩
              rw [hd]
              clear hd
              have hsz := nms_size hv
              have hnb : s.length ≤ 6 := by omega
              cases m with
              | zero =>
                have f4 : decide ((i : Int) < (k : Int)) = false := by simp; omega
                have hA := s_ValidAdv ⟨o, v, s, w⟩ (show s.length + (w.length + sumN Name.size w) ≤ _ by omega)
                have e5 : fin7 b o v s (rdNs b 0 p w) = if p = b.length ∧ vAdv ⟨o, v, s, w⟩ = true then some ⟨o, v, s, w⟩ else none := rfl
                rw [e5]
                by_cases hpb : p = b.length
                · have f5 : (!((p : Int) == (b.length : Int))) = false := by simp [hpb]
                  cases hva : vAdv ⟨o, v, s, w⟩ with
                  | true =>
                    rw [hva] at hA
                    rw [if_pos ⟨hpb, rfl⟩]
                    (repeat' ((conv => whnf); first | refine stp ?_ | refine Cl.mk (hA) ?_ | refine Cl.pre (by simp only [shcLL_ints, shcLL_byts, shcLL_strs, Adve.shcs, Data.shcs, Fetc.shcs, Gran.shcs, Keyy.shcs, Mani.shcs, Name.shcs, Read.shcs, Rout.shcs, Segm.shcs, TEnt.shcs]; rfl) ?_))
                    exact Vs.Fin.mk ⟨rfl, .inr (.keep (.keep (.sl1 (shcLL_ints s) (.sl1 (Name.shcs w) (.keep .nil)))))⟩ (.refl _)
                  | false =>
                    rw [hva] at hA
                    rw [if_neg (fun h => by simp at h)]
                    (repeat' ((conv => whnf); first | refine stp ?_ | refine Cl.mk (hA) ?_ | refine Cl.pre (by simp only [shcLL_ints, shcLL_byts, shcLL_strs, Adve.shcs, Data.shcs, Fetc.shcs, Gran.shcs, Keyy.shcs, Mani.shcs, Name.shcs, Read.shcs, Rout.shcs, Segm.shcs, TEnt.shcs]; rfl) ?_))
                    exact Vs.Fin.mk ⟨rfl, .inr (.keep (.keep (.nils (.nils (.keep .nil)))))⟩ (.refl _)
                · have f5 : (!((p : Int) == (b.length : Int))) = true := by simp; omega
                  rw [if_neg (fun h => hpb h.1)]
                  (repeat' ((conv => whnf); first | refine stp ?_ | refine Cl.mk (hA) ?_ | refine Cl.pre (by simp only [shcLL_ints, shcLL_byts, shcLL_strs, Adve.shcs, Data.shcs, Fetc.shcs, Gran.shcs, Keyy.shcs, Mani.shcs, Name.shcs, Read.shcs, Rout.shcs, Segm.shcs, TEnt.shcs]; rfl) ?_))
                  exact Vs.Fin.mk ⟨rfl, .inr (.keep (.keep (.nils (.nils (.keep .nil)))))⟩ (.refl _)
              | succ m =>
                have f4 : decide ((i : Int) < (k : Int)) = true := by simp; omega
                have hR := s_ReadName b p hb hp
                rw [rdNs]
                cases hy : rdNm b p with
                | none =>
                  rw [hy] at hR
                  (repeat' ((conv => whnf); first | refine stp ?_ | refine Cl.mk (hR) ?_ | refine Cl.pre (by simp only [shcLL_ints, shcLL_byts, shcLL_strs, Adve.shcs, Data.shcs, Fetc.shcs, Gran.shcs, Keyy.shcs, Mani.shcs, Name.shcs, Read.shcs, Rout.shcs, Segm.shcs, TEnt.shcs]; rfl) ?_))
                  exact Vs.Fin.mk ⟨rfl, .inr (.keep (.keep (.nils (.nils (.keep .nil)))))⟩ (.refl _)
                | some ne =>
                  obtain ⟨nm, e9⟩ := ne
                  rw [hy] at hR
                  have hle9 := rdNm_le hp hy
                  (repeat' ((conv => whnf); first | refine stp ?_ | refine Cl.mk (hR) ?_ | refine Rq.mk (by simp; omega) ?_ | refine Cl.pre (by simp only [shcLL_ints, shcLL_byts, shcLL_strs, Adve.shcs, Data.shcs, Fetc.shcs, Gran.shcs, Keyy.shcs, Mani.shcs, Name.shcs, Read.shcs, Rout.shcs, Segm.shcs, TEnt.shcs]; rfl) ?_))
                  refine Nx.intro m (by omega) _ (WkS.weak _ _) ⟨e9, i + 1, w ++ [nm], rfl, by omega, by omega, by simp; omega, by simp [List.all_append, hv, hle9.2], ?_⟩
                  (repeat' (first | exact rfl | refine consE ?_ ?_ | refine entE ?_ | refine vI ?_ | refine vS ?_ | refine vT ?_ | refine vB ?_))
                  all_goals first | (simp; done) | omega
            · have f2 : decide ((k : Int) > 4) = true := by simp; omega
              rw [show decAd b = none by simp [decAd, e1, hn, e2, hx, hk]]
              (repeat' ((conv => whnf); first | refine stp ?_ | refine Cl.mk (h1) ?_ | refine El.mk rfl ?_ | refine Cl.mk (h2) ?_ | refine Cl.mk (h3) ?_ | refine Cl.pre (by simp only [shcLL_ints, shcLL_byts, shcLL_strs, Adve.shcs, Data.shcs, Fetc.shcs, Gran.shcs, Keyy.shcs, Mani.shcs, Name.shcs, Read.shcs, Rout.shcs, Segm.shcs, TEnt.shcs]; rfl) ?_))
              exact Vs.Fin.mk ⟨rfl, .inr (.keep (.keep (.nils (.nils (.keep .nil)))))⟩ (.refl _)
      · have f1 : decide (n > 6) = true := by simp; omega
        rw [show decAd b = none by simp [decAd, e1, hn]]
        (repeat' ((conv => whnf); first | refine stp ?_ | refine Cl.mk (h1) ?_ | refine El.mk rfl ?_ | refine Cl.pre (by simp only [shcLL_ints, shcLL_byts, shcLL_strs, Adve.shcs, Data.shcs, Fetc.shcs, Gran.shcs, Keyy.shcs, Mani.shcs, Name.shcs, Read.shcs, Rout.shcs, Segm.shcs, TEnt.shcs]; rfl) ?_))
        exact Vs.Fin.mk ⟨rfl, .inr (.keep (.keep (.nils (.nils (.keep .nil)))))⟩ (.refl _)
theorem sh_TI {f : Nat} {args outs : List Arg} {l : List Int} {e : Int} {b : Bool} (h : FO f args outs (TIs l e b)) : FO f args outs (.tup [(false, 1), (false, 1), (false, 1)], [cIs false l, cI e, cB b]) := by
  have := FOk.wk (res' := (.tup [(false, 1), (false, 1), (false, 1)], shcL [cIs true l, cI e, cB b])) h (.refl _) (.refl _) ⟨rfl, .inr (WkL.refl _)⟩
  simpa [shcL, Vs.shc, shcLL_ints] using this
theorem is6 : FI 6 Try.f6 := ⟨⟨Try.f6, Try.func6, rfl, rfl, rfl, rfl⟩, rfl⟩
set_option maxRecDepth 20000 in
set_option maxHeartbeats 16000000 in
theorem i_DecAd (b : List UInt8) (hb : b.length ≤ 1048576) : FO 6 [Ys false b] [Ys false b] (TAo (decAd b)) := by
  refine fok envOk mixed is6 ⟨rfl, rfl, ?_⟩
  have h1 := i_DecodeInts b 0 3 hb (by omega)
  cases e1 : decI b 0 3 with
  | none =>
    rw [e1] at h1
    rw [show decAd b = none by simp [decAd, e1]]
    (repeat' ((conv => whnf); first | refine stp ?_ | refine Cl.mk (h1) ?_ | refine Cl.pre (by simp only [shcLL_ints, shcLL_byts, shcLL_strs, Adve.shcs, Data.shcs, Fetc.shcs, Gran.shcs, Keyy.shcs, Mani.shcs, Name.shcs, Read.shcs, Rout.shcs, Segm.shcs, TEnt.shcs]; rfl) ?_))
    exact Vs.Fin.mk ⟨rfl, .inr (.keep (.keep (.nils (.nils (.keep .nil)))))⟩ (.refl _)
  | some le =>
    obtain ⟨l, e⟩ := le
    have hle := decI_le (by omega) e1
    have hnn := decI_nn e1
    match l, hle, hnn with
    | [o, v, n], hle, hnn =>
      rw [e1] at h1
      have hn0 : 0 ≤ n := hnn n (by simp)
      by_cases hn : n ≤ 6
      · have f1 : decide (n > 6) = false := by simp; omega
        have h2 := i_DecodeInts b e (n + 1) hb (by omega)
        rw [decI_succ hn0 hn] at h2
        cases e2 : decI b e n with
        | none =>
          rw [e2] at h2
          replace h2 : FO 16 [Ys false b, I e, I (n + 1)] [Ys false b, I e, I (n + 1)] (TIs [] 0 false) := h2
          rw [show decAd b = none by simp [decAd, e1, hn, e2]]
          (repeat' ((conv => whnf); first | refine stp ?_ | refine Cl.mk (h1) ?_ | refine El.mk rfl ?_ | refine Cl.mk (h2) ?_ | refine Cl.pre (by simp only [shcLL_ints, shcLL_byts, shcLL_strs, Adve.shcs, Data.shcs, Fetc.shcs, Gran.shcs, Keyy.shcs, Mani.shcs, Name.shcs, Read.shcs, Rout.shcs, Segm.shcs, TEnt.shcs]; rfl) ?_))
          exact Vs.Fin.mk ⟨rfl, .inr (.keep (.keep (.nils (.nils (.keep .nil)))))⟩ (.refl _)
        | some de =>
          obtain ⟨s, e3⟩ := de
          rw [e2] at h2
          have hld := decI_le (by omega) e2
          cases hx : rdV (b.drop e3) 0 0 with
          | none =>
            simp only [hx] at h2
            replace h2 : FO 16 [Ys false b, I e, I (n + 1)] [Ys false b, I e, I (n + 1)] (TIs [] 0 false) := h2
            rw [show decAd b = none by simp [decAd, e1, hn, e2, hx]]
            (repeat' ((conv => whnf); first | refine stp ?_ | refine Cl.mk (h1) ?_ | refine El.mk rfl ?_ | refine Cl.mk (h2) ?_ | refine Cl.pre (by simp only [shcLL_ints, shcLL_byts, shcLL_strs, Adve.shcs, Data.shcs, Fetc.shcs, Gran.shcs, Keyy.shcs, Mani.shcs, Name.shcs, Read.shcs, Rout.shcs, Segm.shcs, TEnt.shcs]; rfl) ?_))
            exact Vs.Fin.mk ⟨rfl, .inr (.keep (.keep (.nils (.nils (.keep .nil)))))⟩ (.refl _)
          | some kc =>
            obtain ⟨k, c⟩ := kc
            simp only [hx] at h2
            have hlx := rdV_le _ _ _ _ _ hx
            simp at hlx
            obtain rfl : n = (s.length : Int) := by omega
            have h2s := sh_TI (l := s ++ [(k : Int)]) (e := ((e3 + c : Nat) : Int)) (b := true) h2
            clear h2
            by_cases hk : k ≤ 4
            · have f2 : decide ((k : Int) > 4) = false := by simp; omega
              rw [show decAd b = fin7 b o v s (rdNs b k (e3 + c) []) by simp [decAd, e1, hn, e2, hx, hk]]
              have hq0 : e3 + c ≤ b.length := by omega
              generalize e3 + c = q0 at h2s hq0 ⊢
              have hsl : (s ++ [(k : Int)]).length = s.length + 1 := by simp
              (repeat' ((conv => whnf); first | refine stp ?_ | refine Cl.mk (h1) ?_ | refine El.mk rfl ?_ | refine Cl.mk (h2s) ?_ | refine El.mk (getH (l := s ++ [(k : Int)]) (d := s) (r := []) rfl rfl) ?_ | refine Cl.pre (by simp only [shcLL_ints, shcLL_byts, shcLL_strs, Adve.shcs, Data.shcs, Fetc.shcs, Gran.shcs, Keyy.shcs, Mani.shcs, Name.shcs, Read.shcs, Rout.shcs, Segm.shcs, TEnt.shcs]; rfl) ?_))
              refine Lp.mk [.sl 0, .bx 2, .sl 2, .sl 5, .bx 9, .sl 9, .sl 71, .sl 72] (fun m σ => ∃ p i w, fin7 b o v s (rdNs b k q0 []) = fin7 b o v s (rdNs b m p w) ∧ p ≤ b.length ∧ i + m = k ∧ w.length = i ∧ w.all vName = true ∧ σ = [Sa 0 (Ys false b), Bx 2 ([cI 0, cI 0, .sl true .isnil 0 [], .sl true .isnil 0 []]), Pt 2, Sa 5 (I p), Bx 9 ([cI o, cI v, cIs false s, sl true 1 (w.map (Name.c true))]), Pt 9, Sa 71 (I k), Sa 72 (I i)]) (k) _ (.cons (.refl _) (.cons (.refl _) (.cons (.refl _) (.cons (.refl _) (.cons (.keep (.keep (.keep (.nils .nil)))) (.cons (.refl _) (.cons (.refl _) (.cons (.refl _) .nil)))))))) ⟨q0, 0, [], rfl, hq0, by omega, rfl, rfl, (by first | rfl | (simp only [zlen, zsum, Nat.zero_mul, Int.add_zero, Int.sub_zero, List.nil_append, markG, cutI, cutI2]; rfl))⟩ ?_
              rintro m τ ⟨p, i, w, hd, hp, hk3, hw, hv, rfl⟩
              rw [hd]
              clear hd
              have hsz := nms_size hv
              have hnb : s.length ≤ 6 := by omega
              cases m with
              | zero =>
                have f4 : decide ((i : Int) < (k : Int)) = false := by simp; omega
                have hA := i_ValidAdv ⟨o, v, s, w⟩ (show s.length + (w.length + sumN Name.size w) ≤ _ by omega)
                have e5 : fin7 b o v s (rdNs b 0 p w) = if p = b.length ∧ vAdv ⟨o, v, s, w⟩ = true then some ⟨o, v, s, w⟩ else none := rfl
                rw [e5]
                by_cases hpb : p = b.length
                · have f5 : (!((p : Int) == (b.length : Int))) = false := by simp [hpb]
                  cases hva : vAdv ⟨o, v, s, w⟩ with
                  | true =>
                    rw [hva] at hA
                    rw [if_pos ⟨hpb, rfl⟩]
                    (repeat' ((conv => whnf); first | refine stp ?_ | refine Cl.mk (hA) ?_ | refine Cl.pre (by simp only [shcLL_ints, shcLL_byts, shcLL_strs, Adve.shcs, Data.shcs, Fetc.shcs, Gran.shcs, Keyy.shcs, Mani.shcs, Name.shcs, Read.shcs, Rout.shcs, Segm.shcs, TEnt.shcs]; rfl) ?_))
                    exact Vs.Fin.mk ⟨rfl, .inr (.keep (.keep (.sl1 rfl (.sl1 (Name.shcs w) (.keep .nil)))))⟩ (.refl _)
                  | false =>
                    rw [hva] at hA
                    rw [if_neg (fun h => by simp at h)]
                    (repeat' ((conv => whnf); first | refine stp ?_ | refine Cl.mk (hA) ?_ | refine Cl.pre (by simp only [shcLL_ints, shcLL_byts, shcLL_strs, Adve.shcs, Data.shcs, Fetc.shcs, Gran.shcs, Keyy.shcs, Mani.shcs, Name.shcs, Read.shcs, Rout.shcs, Segm.shcs, TEnt.shcs]; rfl) ?_))
                    exact Vs.Fin.mk ⟨rfl, .inr (.keep (.keep (.nils (.nils (.keep .nil)))))⟩ (.refl _)
                · have f5 : (!((p : Int) == (b.length : Int))) = true := by simp; omega
                  rw [if_neg (fun h => hpb h.1)]
                  (repeat' ((conv => whnf); first | refine stp ?_ | refine Cl.mk (hA) ?_ | refine Cl.pre (by simp only [shcLL_ints, shcLL_byts, shcLL_strs, Adve.shcs, Data.shcs, Fetc.shcs, Gran.shcs, Keyy.shcs, Mani.shcs, Name.shcs, Read.shcs, Rout.shcs, Segm.shcs, TEnt.shcs]; rfl) ?_))
                  exact Vs.Fin.mk ⟨rfl, .inr (.keep (.keep (.nils (.nils (.keep .nil)))))⟩ (.refl _)
              | succ m =>
                have f4 : decide ((i : Int) < (k : Int)) = true := by simp; omega
                have hR := i_ReadName b p hb hp
                rw [rdNs]
                cases hy : rdNm b p with
                | none =>
                  rw [hy] at hR
                  (repeat' ((conv => whnf); first | refine stp ?_ | refine Cl.mk (hR) ?_ | refine Cl.pre (by simp only [shcLL_ints, shcLL_byts, shcLL_strs, Adve.shcs, Data.shcs, Fetc.shcs, Gran.shcs, Keyy.shcs, Mani.shcs, Name.shcs, Read.shcs, Rout.shcs, Segm.shcs, TEnt.shcs]; rfl) ?_))
                  exact Vs.Fin.mk ⟨rfl, .inr (.keep (.keep (.nils (.nils (.keep .nil)))))⟩ (.refl _)
                | some ne =>
                  obtain ⟨nm, e9⟩ := ne
                  rw [hy] at hR
                  have hle9 := rdNm_le hp hy
                  (repeat' ((conv => whnf); first | refine stp ?_ | refine Cl.mk (hR) ?_ | refine Rq.mk (by simp; omega) ?_ | refine Cl.pre (by simp only [shcLL_ints, shcLL_byts, shcLL_strs, Adve.shcs, Data.shcs, Fetc.shcs, Gran.shcs, Keyy.shcs, Mani.shcs, Name.shcs, Read.shcs, Rout.shcs, Segm.shcs, TEnt.shcs]; rfl) ?_))
                  refine Nx.intro m (by omega) _ (WkS.weak _ _) ⟨e9, i + 1, w ++ [nm], rfl, by omega, by omega, by simp; omega, by simp [List.all_append, hv, hle9.2], ?_⟩
                  (repeat' (first | exact rfl | refine consE ?_ ?_ | refine entE ?_ | refine vI ?_ | refine vS ?_ | refine vT ?_ | refine vB ?_))
                  all_goals first | (simp; done) | omega
            · have f2 : decide ((k : Int) > 4) = true := by simp; omega
              rw [show decAd b = none by simp [decAd, e1, hn, e2, hx, hk]]
              have hsl : (s ++ [(k : Int)]).length = s.length + 1 := by simp
              (repeat' ((conv => whnf); first | refine stp ?_ | refine Cl.mk (h1) ?_ | refine El.mk rfl ?_ | refine Cl.mk (h2s) ?_ | refine El.mk (getH (l := s ++ [(k : Int)]) (d := s) (r := []) rfl rfl) ?_ | refine Cl.pre (by simp only [shcLL_ints, shcLL_byts, shcLL_strs, Adve.shcs, Data.shcs, Fetc.shcs, Gran.shcs, Keyy.shcs, Mani.shcs, Name.shcs, Read.shcs, Rout.shcs, Segm.shcs, TEnt.shcs]; rfl) ?_))
              exact Vs.Fin.mk ⟨rfl, .inr (.keep (.keep (.nils (.nils (.keep .nil)))))⟩ (.refl _)
      · have f1 : decide (n > 6) = true := by simp; omega
        rw [show decAd b = none by simp [decAd, e1, hn]]
        (repeat' ((conv => whnf); first | refine stp ?_ | refine Cl.mk (h1) ?_ | refine El.mk rfl ?_ | refine Cl.pre (by simp only [shcLL_ints, shcLL_byts, shcLL_strs, Adve.shcs, Data.shcs, Fetc.shcs, Gran.shcs, Keyy.shcs, Mani.shcs, Name.shcs, Read.shcs, Rout.shcs, Segm.shcs, TEnt.shcs]; rfl) ?_))
        exact Vs.Fin.mk ⟨rfl, .inr (.keep (.keep (.nils (.nils (.keep .nil)))))⟩ (.refl _)
end Go.Proofs.Ytoekfmkbkffciaa
