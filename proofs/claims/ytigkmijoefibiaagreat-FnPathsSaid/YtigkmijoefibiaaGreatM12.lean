/- Contracts of functions of the program: no statement of the seat is proved here. Each under the conditions that stand in it. -/
import Derived.Test.YtigkmijoefibiaaGreatM5
set_option linter.all false
namespace Go.Proofs.YtigkmijoefibiaaGreat
open Go.Vs Go.Proofs
abbrev RT (p : List TEnt × Bool) : Arg := (.tup [(false, 1), (false, 1)], [sl true 2 (p.1.map (TEnt.c false)), cB p.2])
def lowN (n : Name) (z : TEnt) : Bool := decide (cmpL z.name.parts n.parts < 0)
def putO (l : List TEnt) (n : Name) (v : Int) : List TEnt :=
  match l.find? (isN n) with
  | some y => l.takeWhile (fun z => !isN n z) ++ ⟨y.name, v⟩ :: (l.dropWhile (fun z => !isN n z)).tail
  | none => l.takeWhile (lowN n) ++ ⟨n, v⟩ :: l.dropWhile (lowN n)
def putTe (l : List TEnt) (n : Name) (v : Int) : List TEnt × Bool := if vTab (putO l n v) = true then (putO l n v, true) else (l, false)
theorem shcLL_T (l : List TEnt) : shcLL (l.map (TEnt.c false)) = l.map (TEnt.c false) := shcLL_map (fun _ => rfl) l
theorem sh_Tl {f : Nat} {args outs : List Arg} {l : List TEnt} (h : FO f args outs (Tl true l)) : FO f args outs (Tl false l) := by
  have := FOk.wk (res' := (.one, shcL [sl true 2 (l.map (TEnt.c false))])) h (.refl _) (.refl _) ⟨rfl, .inr (WkL.refl _)⟩
  simpa [shcL, Vs.shc, shcLL_T] using this
theorem putO_set {l d r : List TEnt} {x : TEnt} {n : Name} {v : Int} (e : l = d ++ x :: r) (h2 : d.any (isN n) = false) (h3 : isN n x = true) (h4 : l.find? (isN n) = some x) : putO l n v = d ++ ⟨x.name, v⟩ :: r := by
  have := takeW (p := fun z => !isN n z) d (x :: r) (by simpa using h2) (by simp [h3])
  unfold putO; rw [h4]; dsimp only; rw [e, this.1, this.2]; rfl
theorem putO_ins {l d r : List TEnt} {n : Name} {v : Int} (e : l = d ++ r) (h2 : l.find? (isN n) = none) (h3 : ∀ x ∈ d, lowN n x = true) (h4 : ∀ x ∈ r.head?, lowN n x = false) : putO l n v = d ++ ⟨n, v⟩ :: r := by
  have := takeW (p := lowN n) d r h3 h4
  unfold putO; rw [h2]; dsimp only; rw [e, this.1, this.2]
theorem putO_size (l : List TEnt) (n : Name) (v : Int) : (putO l n v).length + sumN TEnt.size (putO l n v) ≤ l.length + sumN TEnt.size l + 1 + strsSize n.parts := by
  have en : TEnt.size ⟨n, v⟩ = strsSize n.parts := rfl
  rcases find_split (p := isN n) l with ⟨h1, h2⟩ | ⟨d, x, r, e, h2, h3, h4⟩
  · have h := congrArg (fun z : List TEnt => z.length + sumN TEnt.size z) (List.takeWhile_append_dropWhile (p := lowN n) (l := l))
    unfold putO; rw [h2]
    simp only [sumN_append, List.length_append, sumN, List.length_cons] at h ⊢
    omega
  · rw [putO_set e h2 h3 h4, e]
    have ex : TEnt.size ⟨x.name, v⟩ = TEnt.size x := rfl
    simp only [sumN_append, List.length_append, sumN, List.length_cons, ex]
    omega
theorem ins_es {d r : List TEnt} {e : TEnt} (l : List TEnt) (hl : l = d ++ r) : ([] ++ List.drop (Int.toNat 0) (List.take ((d.length : Nat) : Int).toNat (l.map (TEnt.c false))) ++ [TEnt.c false e] ++ List.drop ((d.length : Nat) : Int).toNat (List.take (((l.map (TEnt.c false)).length : Nat) : Int).toNat (l.map (TEnt.c false)))) = (d ++ e :: r).map (TEnt.c false) := by
  have e1 : List.take (((l.map (TEnt.c false)).length : Nat) : Int).toNat (l.map (TEnt.c false)) = l.map (TEnt.c false) := List.take_of_length_le (by simp)
  rw [e1, hl]
  simp
theorem ins_ea {d r : List TEnt} {e : TEnt} (l : List TEnt) (hl : l = d ++ r) : shcLL ([] ++ List.drop (Int.toNat 0) (List.take ((d.length : Nat) : Int).toNat (l.map (TEnt.c false))) ++ [TEnt.c false e] ++ List.drop ((d.length : Nat) : Int).toNat (List.take (((l.map (TEnt.c false)).length : Nat) : Int).toNat (l.map (TEnt.c false)))) = (d ++ e :: r).map (TEnt.c false) := by
  have h : ([] ++ List.drop (Int.toNat 0) (List.take ((d.length : Nat) : Int).toNat (l.map (TEnt.c false))) ++ [TEnt.c false e] ++ List.drop ((d.length : Nat) : Int).toNat (List.take (((l.map (TEnt.c false)).length : Nat) : Int).toNat (l.map (TEnt.c false)))) = (d ++ e :: r).map (TEnt.c false) := by
    have e1 : List.take (((l.map (TEnt.c false)).length : Nat) : Int).toNat (l.map (TEnt.c false)) = l.map (TEnt.c false) := List.take_of_length_le (by simp)
    rw [e1, hl]
    simp
  rw [h, shcLL_T]
theorem is204 : FI 204 Tryz.f204 := ⟨⟨Tryz.f204, Tryz.func204, rfl, rfl, rfl, rfl⟩, rfl⟩
set_option maxRecDepth 20000 in
set_option maxHeartbeats 16000000 in
theorem s_PutEntry (l : List TEnt) (n : Name) (v : Int) (hz : l.length + sumN TEnt.size l + strsSize n.parts ≤ 1048000) : FO 204 [Tl false l, A (Name.c false n), I v] [Tl false l, A (Name.c false n), I v] (RT (putTe l n v)) := by
  refine fok envOk mixed is204 ⟨rfl, rfl, ?_⟩
  have hS := putO_size l n v
  have hV := s_ValidTab (putO l n v) (by omega)
  have hF := s_l6Find l n (by omega) (by omega)
  have hN := sh_Nm (s_l4Copy n (by omega))
  have hcl := strs_len (l := n.parts) (k := strsSize n.parts) (Nat.le_refl _)
  have hB := s_l6CopyS l (by omega)
  rcases find_split (p := isN n) l with ⟨h1, h2⟩ | ⟨d, x, r, e, h2, h3, h4⟩
  · rw [findI_none h1] at hF
    have hA := sh_Tl hB
    (repeat' ((conv => whnf); first | refine stp ?_ | refine Cl.mk (hA) ?_ | refine Cl.mk (hF) ?_ | refine Cl.pre (by simp only [shcLL_ints, shcLL_byts, shcLL_strs, Adve.shcs, Data.shcs, Fetc.shcs, Gran.shcs, Keyy.shcs, Mani.shcs, Name.shcs, Read.shcs, Rout.shcs, Segm.shcs, TEnt.shcs]; rfl) ?_))
    refine Lp.mk [.sl 0, .sl 2, .bx 4, .sl 4, .sl 8, .sl 9] (fun m σ => ∃ d r, l = d ++ r ∧ m = r.length ∧ (∀ x ∈ d, lowN n x = true) ∧ σ = [Sa 0 (Tl false l), Sa 2 (I v), Bx 4 ((Name.c false n)), Pt 4, Sa 8 (Tl false l), Sa 9 (I d.length)]) (l.length) _ (WkS.weak _ _) ⟨[], l, rfl, rfl, by simp, (by first | rfl | (simp only [zlen, zsum, Nat.zero_mul, Int.add_zero, Int.sub_zero, List.nil_append, markG]; rfl))⟩ ?_
    rintro m τ ⟨d, r, hl, rfl, hd, rfl⟩
    have hy : l.length = d.length + r.length := by rw [hl]; simp
    cases r with
    | nil =>
      have f1 : decide (((d.length : Nat) : Int) < ((l.length : Nat) : Int)) = false := by simp at * <;> omega
      have hp := putO_ins (v := v) hl h2 hd (by simp)
      have ea := ins_ea (e := ⟨n, v⟩) l hl
      rw [← hp] at ea
      have es := ins_es (e := ⟨n, v⟩) l hl
      rw [← hp] at es
      cases hb : vTab (putO l n v) with
      | true =>
        rw [hb] at hV
        (repeat' ((conv => whnf); first | refine stp ?_ | refine Cl.mk (hN) ?_ | refine Rq.mk (by simp <;> omega) ?_ | refine Cl.eq hV (congrArg (fun z => [O (.sl false .unk 2 z)]) ea) ?_ | refine Cl.pre (by simp only [shcLL_ints, shcLL_byts, shcLL_strs, Adve.shcs, Data.shcs, Fetc.shcs, Gran.shcs, Keyy.shcs, Mani.shcs, Name.shcs, Read.shcs, Rout.shcs, Segm.shcs, TEnt.shcs]; rfl) ?_))
        rw [show putTe l n v = (putO l n v, true) by simp [putTe, hb]]
        exact Vs.Fin.mk (WkR.of (.sl1 es (.refl _))) (.refl _)
      | false =>
        rw [hb] at hV
        (repeat' ((conv => whnf); first | refine stp ?_ | refine Cl.mk (hN) ?_ | refine Rq.mk (by simp <;> omega) ?_ | refine Cl.eq hV (congrArg (fun z => [O (.sl false .unk 2 z)]) ea) ?_ | refine Cl.mk (hB) ?_ | refine Cl.pre (by simp only [shcLL_ints, shcLL_byts, shcLL_strs, Adve.shcs, Data.shcs, Fetc.shcs, Gran.shcs, Keyy.shcs, Mani.shcs, Name.shcs, Read.shcs, Rout.shcs, Segm.shcs, TEnt.shcs]; rfl) ?_))
        rw [show putTe l n v = (l, false) by simp [putTe, hb]]
        exact Vs.Fin.mk (WkR.refl _) (.refl _)
    | cons x r =>
      have hx := te_in (z := 1048576) (x := x) (l := l) (by omega) (by rw [hl]; simp)
      have f1 : decide (((d.length : Nat) : Int) < ((l.length : Nat) : Int)) = true := by simp at * <;> omega
      (repeat' ((conv => whnf); first | refine stp ?_ | refine El.mk (getH hl rfl) ?_ | refine Cl.mk (s_CompareNames x.name n (by omega) (by omega)) ?_ | refine Cl.pre (by simp only [shcLL_ints, shcLL_byts, shcLL_strs, Adve.shcs, Data.shcs, Fetc.shcs, Gran.shcs, Keyy.shcs, Mani.shcs, Name.shcs, Read.shcs, Rout.shcs, Segm.shcs, TEnt.shcs]; rfl) ?_))
      refine Br.mk (fun h5 => ?_) (fun h5 => ?_)
      · (repeat' ((conv => whnf); first | refine stp ?_ ))
        refine Nx.intro r.length (by simp) _ (WkS.weak _ _) ⟨d ++ [x], r, by simp [hl], rfl, by
          intro y hy
          rcases List.mem_append.mp hy with hy | hy
          · exact hd y hy
          · simp at hy; subst hy; simpa [lowN] using h5, ?_⟩
        (repeat' (first | exact rfl | refine consE ?_ ?_ | refine entE ?_ | refine vI ?_ | refine vS ?_ | refine vT ?_ | refine vB ?_))
        simp
      · have hp := putO_ins (v := v) hl h2 hd (by simp [lowN]; simpa using h5)
        have ea := ins_ea (e := ⟨n, v⟩) l hl
        rw [← hp] at ea
        have es := ins_es (e := ⟨n, v⟩) l hl
        rw [← hp] at es
        cases hb : vTab (putO l n v) with
        | true =>
          rw [hb] at hV
          (repeat' ((conv => whnf); first | refine stp ?_ | refine Cl.mk (hN) ?_ | refine Rq.mk (by simp <;> omega) ?_ | refine Cl.eq hV (congrArg (fun z => [O (.sl false .unk 2 z)]) ea) ?_ | refine Cl.pre (by simp only [shcLL_ints, shcLL_byts, shcLL_strs, Adve.shcs, Data.shcs, Fetc.shcs, Gran.shcs, Keyy.shcs, Mani.shcs, Name.shcs, Read.shcs, Rout.shcs, Segm.shcs, TEnt.shcs]; rfl) ?_))
          rw [show putTe l n v = (putO l n v, true) by simp [putTe, hb]]
          exact Vs.Fin.mk (WkR.of (.sl1 es (.refl _))) (.refl _)
        | false =>
          rw [hb] at hV
          (repeat' ((conv => whnf); first | refine stp ?_ | refine Cl.mk (hN) ?_ | refine Rq.mk (by simp <;> omega) ?_ | refine Cl.eq hV (congrArg (fun z => [O (.sl false .unk 2 z)]) ea) ?_ | refine Cl.mk (hB) ?_ | refine Cl.pre (by simp only [shcLL_ints, shcLL_byts, shcLL_strs, Adve.shcs, Data.shcs, Fetc.shcs, Gran.shcs, Keyy.shcs, Mani.shcs, Name.shcs, Read.shcs, Rout.shcs, Segm.shcs, TEnt.shcs]; rfl) ?_))
          rw [show putTe l n v = (l, false) by simp [putTe, hb]]
          exact Vs.Fin.mk (WkR.refl _) (.refl _)
  · have hfi : findI (isN n) l 0 = (d.length : Int) := by
      have := findI_at h2 h3 0 (r := r)
      rw [← e] at this; omega
    rw [hfi] at hF
    have f1 : decide (((d.length : Nat) : Int) ≥ 0) = true := by simp
    have hy : l.length = d.length + (r.length + 1) := by rw [e]; simp
    have hp := putO_set (v := v) e h2 h3 h4
    have es : ((l.map (TEnt.c false)).set ((d.length : Nat) : Int).toNat (spliceAV (TEnt.c false x) (0 + 1) [cI v])) = (putO l n v).map (TEnt.c false) := by
      rw [hp, e]; simp; rfl
    have ea : shcLL ((l.map (TEnt.c false)).set ((d.length : Nat) : Int).toNat (spliceAV (TEnt.c false x) (0 + 1) [cI v])) = (putO l n v).map (TEnt.c false) := by rw [es, shcLL_T]
    cases hb : vTab (putO l n v) with
    | true =>
      rw [hb] at hV
      (repeat' ((conv => whnf); first | refine stp ?_ | refine Cl.mk (hB) ?_ | refine Cl.mk (hF) ?_ | refine El.mk (getH e rfl) ?_ | refine Cl.eq hV (congrArg (fun z => [O (.sl false .unk 2 z)]) ea) ?_ | refine Cl.pre (by simp only [shcLL_ints, shcLL_byts, shcLL_strs, Adve.shcs, Data.shcs, Fetc.shcs, Gran.shcs, Keyy.shcs, Mani.shcs, Name.shcs, Read.shcs, Rout.shcs, Segm.shcs, TEnt.shcs]; rfl) ?_))
      rw [show putTe l n v = (putO l n v, true) by simp [putTe, hb]]
      exact Vs.Fin.mk (WkR.of (.sl1 es (.refl _))) (.refl _)
    | false =>
      rw [hb] at hV
      (repeat' ((conv => whnf); first | refine stp ?_ | refine Cl.mk (hB) ?_ | refine Cl.mk (hF) ?_ | refine El.mk (getH e rfl) ?_ | refine Cl.eq hV (congrArg (fun z => [O (.sl false .unk 2 z)]) ea) ?_ | refine Cl.pre (by simp only [shcLL_ints, shcLL_byts, shcLL_strs, Adve.shcs, Data.shcs, Fetc.shcs, Gran.shcs, Keyy.shcs, Mani.shcs, Name.shcs, Read.shcs, Rout.shcs, Segm.shcs, TEnt.shcs]; rfl) ?_))
      rw [show putTe l n v = (l, false) by simp [putTe, hb]]
      exact Vs.Fin.mk (WkR.refl _) (.refl _)
theorem is131 : FI 131 Tryz.f131 := ⟨⟨Tryz.f131, Tryz.func131, rfl, rfl, rfl, rfl⟩, rfl⟩
set_option maxRecDepth 20000 in
set_option maxHeartbeats 16000000 in
theorem l20Rows0 (cs : List AV) (C D : Nat → List AV) (L : Nat → List TEnt) (V : Nat → ByteArray) (X : Nat → Int) (k : Nat) (hk : k ≤ 5) (h0 : L 0 = []) (hL : ∀ j, L (j + 1) = (putTe (L j) (pN (V j)) (X j)).1) (hsz : ∀ j, (L j).length + sumN TEnt.size (L j) ≤ 55 * j) (k1 : FO 90 [O (.own cs), I 6] [O (.own (C 0)), I 6] (I k)) (k2 : ∀ j, FO 200 [O (.own (C j))] [O (.own (D j))] (A (Name.c false (pN (V j))))) (k3 : ∀ j, FO 90 [O (.own (D j)), I 6] [O (.own (C (j + 1))), I 6] (I (X j))) : FO 131 [O (.own cs)] [O (.own (C k))] (Tl true (L k)) := by
  refine fok envOk mixed is131 ⟨rfl, rfl, ?_⟩
  have hm : ([] : List (List AV)) = (L 0).map (TEnt.c false) := by rw [h0]; rfl
  (repeat' ((conv => whnf); first | refine stp ?_ | refine Cl.mk (k1) ?_ | refine Cl.pre (by simp only [shcLL_ints, shcLL_byts, shcLL_strs, Adve.shcs, Data.shcs, Fetc.shcs, Gran.shcs, Keyy.shcs, Mani.shcs, Name.shcs, Read.shcs, Rout.shcs, Segm.shcs, TEnt.shcs]; rfl) ?_))
  rw [hm]
  refine Lp.mk [.sl 0, .ex 0, .sl 3, .sl 4] (fun m σ => ∃ j, j + m = k ∧ σ = [Rf 0 0, Ex 0 (O (.own (C j))), Sa 3 (O (.sl true .unk 2 ((L j).map (TEnt.c false)))), Sa 4 (I m)]) (k) _ (.cons (.refl _) (.cons (.refl _) (.cons (.top .nil) (.cons (.refl _) .nil)))) ⟨0, by simp, (by first | rfl | (simp only [zlen, zsum, Nat.zero_mul, Int.add_zero, Int.sub_zero, List.nil_append, markG]; rfl))⟩ ?_
  rintro m τ ⟨j, hj, rfl⟩
  have hz := hsz j
  have hn := hL j
  refine Br.dec (fun h => ?_) (fun h => ?_)
  · have hp := s_PutEntry (L j) (pN (V j)) (X j) (by have := pN_sz (V j); omega)
    rw [show putTe (L j) (pN (V j)) (X j) = (L (j + 1), (putTe (L j) (pN (V j)) (X j)).2) by rw [hn]] at hp
    generalize (putTe (L j) (pN (V j)) (X j)).2 = bv at hp
    have k5 := k2 j
    have k6 := k3 j
    (repeat' ((conv => whnf); first | refine stp ?_ | refine Cl.mk (k5) ?_ | refine Cl.mk (k6) ?_ | refine Cl.eq hp (congrArg (fun z => [O (.sl false .unk 2 z), A (Name.c false (pN (V j))), I (X j)]) (shcLL_T (L j))) ?_ | refine Cl.pre (by simp only [shcLL_ints, shcLL_byts, shcLL_strs, Adve.shcs, Data.shcs, Fetc.shcs, Gran.shcs, Keyy.shcs, Mani.shcs, Name.shcs, Read.shcs, Rout.shcs, Segm.shcs, TEnt.shcs]; rfl) ?_))
    refine Nx.intro (m - 1) (by omega) _ (WkS.weak _ _) ⟨j + 1, by omega, ?_⟩
    (repeat' (first | exact rfl | refine consE ?_ ?_ | refine entE ?_ | refine vI ?_ | refine vS ?_ | refine vT ?_ | refine vB ?_))
    omega
  · obtain rfl : j = k := by omega
    (repeat' ((conv => whnf); first | refine stp ?_ ))
    exact Vs.Fin.mk (WkR.refl _) (.refl _)
end Go.Proofs.YtigkmijoefibiaaGreat
