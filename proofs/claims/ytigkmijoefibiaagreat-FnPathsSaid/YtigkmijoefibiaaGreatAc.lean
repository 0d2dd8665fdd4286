/- Contracts of functions of the program: no statement of the seat is proved here. Each under the conditions that stand in it. -/
import Derived.Test.YtigkmijoefibiaaGreatM9
set_option linter.all false
namespace Go.Proofs.YtigkmijoefibiaaGreat
open Go.Vs Go.Proofs
theorem sh_Ad {f : Nat} {args outs : List Arg} {a : Adve} (h : FO f args outs (A (Adve.c true a))) : FO f args outs (A (Adve.c false a)) := by
  have := FOk.wk (res' := (.agg, shcL (Adve.c true a))) h (.refl _) (.refl _) ⟨rfl, .inr (WkL.refl _)⟩
  rwa [Adve.shc] at this
theorem sh_Ads {f : Nat} {args outs : List Arg} {l : List Adve} (h : FO f args outs (O (sl true 4 (l.map (Adve.c true))))) : FO f args outs (Al l) := by
  have := FOk.wk (res' := (.one, shcL [sl true 4 (l.map (Adve.c true))])) h (.refl _) (.refl _) ⟨rfl, .inr (WkL.refl _)⟩
  simpa [shcL, Vs.shc] using this
theorem shcLL_Ad (l : List Adve) : shcLL (l.map (Adve.c false)) = l.map (Adve.c false) := shcLL_map (fun x => by simp [Adve.c, shcL, Vs.shc]) l
abbrev AB (o : Bool) (p : List Adve × Bool) : Arg := (.tup [(false, 1), (false, 1)], [sl true 4 (p.1.map (Adve.c o)), cB p.2])
def lowA (a z : Adve) : Bool := decide (z.origin < a.origin)
def mrgA (l : List Adve) (a : Adve) : List Adve × Bool :=
  if (vAdv a && vDb l) = true then
    match l.find? (orig a.origin) with
    | some y => if a.version ≤ y.version then (l, false) else (l.takeWhile (fun z => !orig a.origin z) ++ a :: (l.dropWhile (fun z => !orig a.origin z)).tail, true)
    | none => (l.takeWhile (lowA a) ++ a :: l.dropWhile (lowA a), true)
  else (l, false)
theorem takeW {α : Type} {p : α → Bool} : ∀ (d r : List α), (∀ x ∈ d, p x = true) → (∀ x ∈ r.head?, p x = false) → (d ++ r).takeWhile p = d ∧ (d ++ r).dropWhile p = r
  | [], [], _, _ => ⟨rfl, rfl⟩
  | [], x :: r, _, h => by simp [h x (by simp)]
  | x :: d, r, h1, h2 => by
    have := takeW d r (fun y hy => h1 y (by simp [hy])) h2
    simp [h1 x (by simp), this]
theorem mrg_bad {l : List Adve} {a : Adve} (h : (vAdv a && vDb l) = false) : mrgA l a = (l, false) := by simp [mrgA, h]
theorem mrg_old {l d r : List Adve} {a x : Adve} (e : l = d ++ x :: r) (h4 : l.find? (orig a.origin) = some x) (hv : a.version ≤ x.version) : mrgA l a = (l, false) := by
  unfold mrgA; rw [h4]; simp [hv]
theorem mrg_set {l d r : List Adve} {a x : Adve} (hva : (vAdv a && vDb l) = true) (e : l = d ++ x :: r) (h2 : d.any (orig a.origin) = false) (h3 : orig a.origin x = true) (h4 : l.find? (orig a.origin) = some x) (hv : ¬ a.version ≤ x.version) : mrgA l a = (d ++ a :: r, true) := by
  have := takeW (p := fun z => !orig a.origin z) d (x :: r) (by simpa using h2) (by simp [h3])
  unfold mrgA; rw [h4, if_pos hva]; simp only []; rw [if_neg hv, e, this.1, this.2]; rfl
theorem mrg_ins {l d r : List Adve} {a : Adve} (hva : (vAdv a && vDb l) = true) (e : l = d ++ r) (h2 : l.find? (orig a.origin) = none) (h3 : ∀ x ∈ d, lowA a x = true) (h4 : ∀ x ∈ r.head?, lowA a x = false) : mrgA l a = (d ++ a :: r, true) := by
  have := takeW (p := lowA a) d r h3 h4
  unfold mrgA; rw [h2, if_pos hva]; simp only []; rw [e, this.1, this.2]
theorem mrg_size (l : List Adve) (a : Adve) : (mrgA l a).1.length + sumN Adve.size (mrgA l a).1 ≤ l.length + sumN Adve.size l + 1 + Adve.size a := by
  unfold mrgA
  split
  · rcases find_split (p := orig a.origin) l with ⟨h1, h2⟩ | ⟨d, x, r, e, h2, h3, h4⟩
    · rw [h2]
      have h := congrArg (fun z : List Adve => z.length + sumN Adve.size z) (List.takeWhile_append_dropWhile (p := lowA a) (l := l))
      simp only [sumN_append, List.length_append, sumN, List.length_cons] at h ⊢
      omega
    · rw [h4]
      dsimp only
      split
      · dsimp only; omega
      · have := takeW (p := fun z => !orig a.origin z) d (x :: r) (by simpa using h2) (by simp [h3])
        rw [e, this.1, this.2]
        simp only [sumN_append, List.length_append, sumN, List.length_cons, List.tail_cons]
        omega
  · simp; omega
set_option maxRecDepth 20000 in
set_option maxHeartbeats 16000000 in
theorem s_l20AllS (l : List Adve) (hz : l.length + sumN Adve.size l ≤ 1048576) : FO 119 [Al l] [Al l] (O (sl true 4 (l.map (Adve.c false)))) := by
  refine fok envOk mixed is119 ⟨rfl, rfl, ?_⟩
  refine Lp.mk [.sl 0, .sl 3, .sl 4] (fun m σ => ∃ d r, l = d ++ r ∧ m = r.length ∧ σ = [Sa 0 (Al l), Sa 3 (O (.sl true .non 4 (d.map (Adve.c false)))), Sa 4 (I d.length)]) (l.length) _ (WkS.weak _ _) ⟨[], l, rfl, rfl, (by first | rfl | (simp only [zlen, zsum, Nat.zero_mul, Int.add_zero, Int.sub_zero, List.nil_append, markG]; rfl))⟩ ?_
  rintro m τ ⟨d, r, rfl, rfl, rfl⟩
  refine Nm.mk lenC ?_
  cases r with
  | nil =>
    refine Br.neg (by simp) ?_
    (repeat' ((conv => whnf); first | refine stp ?_ | refine Br.mk (fun _ => ?_) (fun _ => ?_) ))
    exact Vs.Fin.mk (WkR.of (.sl1 (by simp) .nil)) (.refl _)
  | cons x r =>
    have hx := ad_in hz (x := x) (by simp)
    have hC := sh_Ad (s_l20Copy x (by omega))
    simp at hz
    refine Br.pos (by simp; omega) ?_
    (repeat' ((conv => whnf); first | refine stp ?_ | refine El.mk (getA rfl) ?_ | refine Cl.mk (hC) ?_ | refine Cl.pre (by simp only [shcLL_ints, shcLL_byts, shcLL_strs, Adve.shcs, Fetc.shcs, Gran.shcs, Mani.shcs, Name.shcs, Read.shcs, Segm.shcs]; rfl) ?_))
    refine Nx.intro r.length (by simp) _ (WkS.weak _ _) ⟨d ++ [x], r, by simp, rfl, ?_⟩
    (repeat' (first | exact rfl | refine consE ?_ ?_ | refine entE ?_ | refine vI ?_ | refine vS ?_ | refine vT ?_ | refine vB ?_))
    · simp
    · simp
theorem is47 : FI 47 Tryz.f47 := ⟨⟨Tryz.f47, Tryz.func47, rfl, rfl, rfl, rfl⟩, rfl⟩
set_option maxRecDepth 20000 in
set_option maxHeartbeats 16000000 in
theorem s_Merge (l : List Adve) (a : Adve) (hz : l.length + sumN Adve.size l + Adve.size a ≤ 1048576) : FO 47 [Al l, A (Adve.c false a)] [Al l, A (Adve.c false a)] (AB false (mrgA l a)) := by
  refine fok envOk mixed is47 ⟨rfl, rfl, ?_⟩
  have hA := s_l20AllS l (by omega)
  have hC := sh_Ad (s_l20Copy a (by omega))
  have hV := s_ValidAdv a (by omega)
  have hD := s_ValidDb l (by omega)
  have hF := s_Find l a.origin (by omega)
  cases v1 : vAdv a with
  | false =>
    rw [mrg_bad (by simp [v1])]
    rw [v1] at hV
    (repeat' ((conv => whnf); first | refine stp ?_ | refine Cl.mk (hA) ?_ | refine Cl.mk (hF) ?_ | refine Cl.mk (hV) ?_ | refine Cl.pre (by simp only [shcLL_ints, shcLL_byts, shcLL_strs, Adve.shcs, Fetc.shcs, Gran.shcs, Mani.shcs, Name.shcs, Read.shcs, Segm.shcs]; rfl) ?_))
    exact Vs.Fin.mk (WkR.refl _) (.refl _)
  | true =>
  cases v2 : vDb l with
  | false =>
    rw [mrg_bad (by simp [v2])]
    rw [v1] at hV
    rw [v2] at hD
    (repeat' ((conv => whnf); first | refine stp ?_ | refine Cl.mk (hA) ?_ | refine Cl.mk (hF) ?_ | refine Cl.mk (hV) ?_ | refine Cl.mk (hD) ?_ | refine Cl.pre (by simp only [shcLL_ints, shcLL_byts, shcLL_strs, Adve.shcs, Fetc.shcs, Gran.shcs, Mani.shcs, Name.shcs, Read.shcs, Segm.shcs]; rfl) ?_))
    exact Vs.Fin.mk (WkR.refl _) (.refl _)
  | true =>
  rw [v1] at hV
  rw [v2] at hD
  rcases find_split (p := orig a.origin) l with ⟨h1, h2⟩ | ⟨d, x, r, e, h2, h3, h4⟩
  · rw [findI_none h1] at hF
    have hA := sh_Ads (s_l20All l (by omega))
    (repeat' ((conv => whnf); first | refine stp ?_ | refine Cl.mk (hA) ?_ | refine Cl.mk (hF) ?_ | refine Cl.mk (hV) ?_ | refine Cl.mk (hD) ?_ | refine Cl.mk (hC) ?_ | refine Cl.pre (by simp only [shcLL_ints, shcLL_byts, shcLL_strs, Adve.shcs, Fetc.shcs, Gran.shcs, Mani.shcs, Name.shcs, Read.shcs, Segm.shcs]; rfl) ?_))
    refine Lp.mk [.bx 3, .sl 3, .sl 6, .sl 7, .bx 8, .sl 8] (fun m σ => ∃ d r, l = d ++ r ∧ m = r.length ∧ (∀ x ∈ d, lowA a x = true) ∧ σ = [Bx 3 ((Adve.c false a)), Pt 3, Sa 6 (Al l), Sa 7 (I d.length), Bx 8 ([cI a.origin, cI a.version, cIs false a.nbs, sl false 1 (a.prefs.map (Name.c false))]), Pt 8]) (l.length) _ (WkS.weak _ _) ⟨[], l, rfl, rfl, by simp, (by first | rfl | (simp only [zlen, zsum, Nat.zero_mul, Int.add_zero, Int.sub_zero, List.nil_append, markG]; rfl))⟩ ?_
    rintro m τ ⟨d, r, hl, rfl, hd, rfl⟩
    have hy : l.length = d.length + r.length := by rw [hl]; simp
    cases r with
    | nil =>
      have f1 : decide (((d.length : Nat) : Int) < ((l.length : Nat) : Int)) = false := by simp at * <;> omega
      rw [mrg_ins (by simp [v1, v2]) hl h2 hd (by simp)]
      (repeat' ((conv => whnf); first | refine stp ?_ | refine Rq.mk (by simp <;> omega) ?_ | refine Cl.pre (by simp only [shcLL_ints, shcLL_byts, shcLL_strs, Adve.shcs, Fetc.shcs, Gran.shcs, Mani.shcs, Name.shcs, Read.shcs, Segm.shcs]; rfl) ?_))
      refine Vs.Fin.mk (WkR.of (.sl1 ?_ (.refl _))) (.refl _)
      simp [hl, shcLL_Ad, List.take_of_length_le]
    | cons x r =>
      have f1 : decide (((d.length : Nat) : Int) < ((l.length : Nat) : Int)) = true := by simp at * <;> omega
      (repeat' ((conv => whnf); first | refine stp ?_ | refine El.mk (getH hl rfl) ?_ | refine Cl.pre (by simp only [shcLL_ints, shcLL_byts, shcLL_strs, Adve.shcs, Fetc.shcs, Gran.shcs, Mani.shcs, Name.shcs, Read.shcs, Segm.shcs]; rfl) ?_))
      refine Br.mk (fun h5 => ?_) (fun h5 => ?_)
      · (repeat' ((conv => whnf); first | refine stp ?_ ))
        refine Nx.intro r.length (by simp) _ (WkS.weak _ _) ⟨d ++ [x], r, by simp [hl], rfl, by
          intro y hy
          rcases List.mem_append.mp hy with hy | hy
          · exact hd y hy
          · simp at hy; subst hy; simpa [lowA] using h5, ?_⟩
        (repeat' (first | exact rfl | refine consE ?_ ?_ | refine entE ?_ | refine vI ?_ | refine vS ?_ | refine vT ?_ | refine vB ?_))
        simp
      · rw [mrg_ins (by simp [v1, v2]) hl h2 hd (by simp [lowA]; simpa using h5)]
        (repeat' ((conv => whnf); first | refine stp ?_ | refine Rq.mk (by simp <;> omega) ?_ | refine Cl.pre (by simp only [shcLL_ints, shcLL_byts, shcLL_strs, Adve.shcs, Fetc.shcs, Gran.shcs, Mani.shcs, Name.shcs, Read.shcs, Segm.shcs]; rfl) ?_))
        refine Vs.Fin.mk (WkR.of (.sl1 ?_ (.refl _))) (.refl _)
        simp [hl, List.take_of_length_le]
        rw [List.take_of_length_le (by simp <;> omega)]
        simp
  · rw [find_at e h2 h3] at hF
    have hy : l.length = d.length + (r.length + 1) := by rw [e]; simp
    have f1 : decide (((d.length : Nat) : Int) ≥ 0) = true := by simp
    by_cases hv : a.version ≤ x.version
    · rw [mrg_old e h4 hv]
      (repeat' ((conv => whnf); first | refine stp ?_ | refine Cl.mk (hA) ?_ | refine Cl.mk (hF) ?_ | refine Cl.mk (hV) ?_ | refine Cl.mk (hD) ?_ | refine El.mk (getH e rfl) ?_ | refine Cl.pre (by simp only [shcLL_ints, shcLL_byts, shcLL_strs, Adve.shcs, Fetc.shcs, Gran.shcs, Mani.shcs, Name.shcs, Read.shcs, Segm.shcs]; rfl) ?_))
      refine Br.pos (by simp; omega) ?_
      (repeat' ((conv => whnf); first | refine stp ?_ ))
      exact Vs.Fin.mk (WkR.refl _) (.refl _)
    · rw [mrg_set (by simp [v1, v2]) e h2 h3 h4 hv]
      (repeat' ((conv => whnf); first | refine stp ?_ | refine Cl.mk (hA) ?_ | refine Cl.mk (hF) ?_ | refine Cl.mk (hV) ?_ | refine Cl.mk (hD) ?_ | refine El.mk (getH e rfl) ?_ | refine Cl.pre (by simp only [shcLL_ints, shcLL_byts, shcLL_strs, Adve.shcs, Fetc.shcs, Gran.shcs, Mani.shcs, Name.shcs, Read.shcs, Segm.shcs]; rfl) ?_))
      refine Br.neg (by simp; omega) ?_
      (repeat' ((conv => whnf); first | refine stp ?_ | refine Cl.mk (hC) ?_ | refine El.mk (getH e rfl) ?_ | refine Cl.pre (by simp only [shcLL_ints, shcLL_byts, shcLL_strs, Adve.shcs, Fetc.shcs, Gran.shcs, Mani.shcs, Name.shcs, Read.shcs, Segm.shcs]; rfl) ?_))
      refine Vs.Fin.mk (WkR.of (.sl1 ?_ (.refl _))) (.refl _)
      simp [e]
      rfl
end Go.Proofs.YtigkmijoefibiaaGreat
