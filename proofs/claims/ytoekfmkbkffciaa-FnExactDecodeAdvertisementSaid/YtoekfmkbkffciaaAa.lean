/- Contracts of functions of the program: no statement of the seat is proved here. Each under the conditions that stand in it. -/
import Derived.Test.YtoekfmkbkffciaaDa
import Derived.Test.YtoekfmkbkffciaaFn
import Derived.Test.YtoekfmkbkffciaaFm
import Derived.Test.YtoekfmkbkffciaaFl
import Derived.Test.YtoekfmkbkffciaaFy
set_option linter.all false
namespace Go.Proofs.Ytoekfmkbkffciaa
open Go.Vs Go.Proofs
/-! Advertisements: valid, copied -/
theorem lastA {α : Type} (d : List α) : d = [] ∨ ∃ d' q, d = d' ++ [q] := by
  rcases List.eq_nil_or_concat d with h | ⟨d', q, h⟩
  · exact .inl h
  · exact .inr ⟨d', q, by simpa using h⟩
def okNb (o : Int) (p : Option Int) (b : Int) : Bool := inR b 0 5 && !(b == o) && (match p with | none => true | some q => decide (q < b))
def nbsOk (o : Int) : Option Int → List Int → Bool
  | _, [] => true
  | p, b :: r => okNb o p b && nbsOk o (some b) r
def vAdv (a : Adve) : Bool := (inR a.origin 0 5 && inR a.version 1 1000 && decide (a.prefs.length ≤ 4)) && (nbsOk a.origin none a.nbs && a.prefs.all vName)
def okAd (p : Option Adve) (a : Adve) : Bool := vAdv a && (match p with | none => true | some q => decide (q.origin < a.origin))
def dbOk : Option Adve → List Adve → Bool
  | _, [] => true
  | p, a :: r => okAd p a && dbOk (some a) r
abbrev vDb (l : List Adve) : Bool := dbOk none l
theorem nm_in {l : List Name} {x : Name} {z : Nat} (hz : l.length + sumN Name.size l ≤ z) (h : x ∈ l) : strsSize x.parts ≤ z := by
  obtain ⟨a, b, rfl⟩ := List.append_of_mem h
  rw [sumN_append] at hz
  simp only [sumN, List.length_append, List.length_cons] at hz
  have e : Name.size x = strsSize x.parts := rfl
  omega
theorem ad_in {l : List Adve} {x : Adve} {z : Nat} (hz : l.length + sumN Adve.size l ≤ z) (h : x ∈ l) : Adve.size x ≤ z := by
  obtain ⟨a, b, rfl⟩ := List.append_of_mem h
  rw [sumN_append] at hz
  simp only [sumN, List.length_append, List.length_cons] at hz
  omega
set_option maxRecDepth 20000 in
set_option maxHeartbeats 16000000 in
theorem IndexFunc_Name {l : List Name} (hl : l.length ≤ 1099511627776) {g : Nat}  {p : Name → Bool} (hg : ∀ x ∈ l, FO g [A (Name.c false x)] [A (Name.c false x)] (B (p x))) : FO 42 [O (sl false 1 (l.map (Name.c false))), O (.clo g [])] [O (sl false 1 (l.map (Name.c false))), O (.clo g [])] (I (findI p l 0)) := by
  refine fok envOk mixed is42 ⟨rfl, rfl, ?_⟩
  refine Nm.mk lenC ?_
  refine Lp.mk [.sl 0, .sl 1, .sl 7, .sl 8] (fun m σ => ∃ d r, l = d ++ r ∧ m = r.length ∧ d.any p = false ∧ σ = [Sa 0 (O (sl false 1 (l.map (Name.c false)))), Sa 1 (O (.clo g [])), Sa 7 (I l.length), Sa 8 (I d.length)]) (l.length) _ (WkS.weak _ _) ⟨[], l, rfl, rfl, rfl, (by first | rfl | (simp only [zlen, zsum, Nat.zero_mul, Int.add_zero, Int.sub_zero, List.nil_append, markG]; rfl))⟩ ?_
  rintro m τ ⟨d, r, rfl, rfl, hd, rfl⟩
  cases r with
  | nil =>
    refine Br.neg (by simp) ?_
    (repeat' ((conv => whnf); first | refine stp ?_ | refine Br.mk (fun _ => ?_) (fun _ => ?_) ))
    refine Vs.Fin.mk (WkR.eq ?_) (.refl _)
    rw [findI_none (by simpa using hd)]
  | cons x r =>
    refine Br.pos (by simp; omega) ?_
    refine Rq.mk ⟨by omega, by simp; omega⟩ ?_
    refine El.mk (getA rfl) ?_
    refine Cl.mk (hg x (by simp)) ?_
    skip
    refine Br.mk (fun h => ?_) (fun h => ?_)
    · (repeat' ((conv => whnf); first | refine stp ?_ | refine Br.mk (fun _ => ?_) (fun _ => ?_) ))
      refine Vs.Fin.mk (WkR.eq ?_) (.refl _)
      rw [findI_at hd h]; simp
    · refine Nm.mk (wrapI (by omega) (by simp at hl; omega)) ?_
      refine Nx.intro r.length (by simp) _ (WkS.weak _ _) ⟨d ++ [x], r, by simp, rfl, by simp_all, ?_⟩
      rw [len1]; rfl
set_option maxRecDepth 20000 in
set_option maxHeartbeats 16000000 in
theorem ContainsFunc_Name {l : List Name} (hl : l.length ≤ 1099511627776) {g : Nat}  {p : Name → Bool} (hg : ∀ x ∈ l, FO g [A (Name.c false x)] [A (Name.c false x)] (B (p x))) : FO 32 [O (sl false 1 (l.map (Name.c false))), O (.clo g [])] [O (sl false 1 (l.map (Name.c false))), O (.clo g [])] (B (l.any p)) := by
  refine fok envOk mixed is32 ⟨rfl, rfl, ?_⟩
  (repeat' ((conv => whnf); first | refine stp ?_ | refine Br.mk (fun _ => ?_) (fun _ => ?_) | refine Cl.mk (IndexFunc_Name hl hg) ?_ | refine Cl.pre (by simp only [shcLL_ints, shcLL_byts, shcLL_strs, Adve.shcs, Fetc.shcs, Gran.shcs, Mani.shcs, Name.shcs, Read.shcs, Segm.shcs]; rfl) ?_))
  refine Vs.Fin.mk (WkR.eq ?_) (.refl _)
  rw [← findI_ge l 0 (by omega)]
theorem is15 : FI 15 Try.f15 := ⟨⟨Try.f15, Try.func15, rfl, rfl, rfl, rfl⟩, rfl⟩
set_option maxRecDepth 20000 in
set_option maxHeartbeats 16000000 in
theorem s_ValidAdv (a : Adve) (hz : Adve.size a ≤ 1099511627776) : FO 15 [A (Adve.c false a)] [A (Adve.c false a)] (B (vAdv a)) := by
  refine fok envOk mixed is15 ⟨rfl, rfl, ?_⟩
  have hz1 : a.nbs.length + (a.prefs.length + sumN Name.size a.prefs) ≤ 1099511627776 := hz
  (repeat' ((conv => whnf); first | refine stp ?_ | refine Cl.mk (s_l1In _ _ _) ?_ | refine Cl.pre (by simp only [shcLL_ints, shcLL_byts, shcLL_strs, Adve.shcs, Fetc.shcs, Gran.shcs, Mani.shcs, Name.shcs, Read.shcs, Segm.shcs]; rfl) ?_))
  refine Br.mk (fun h0 => ?_) (fun h0 => ?_)
  · rw [show vAdv a = false by simp_all [vAdv]]
    (repeat' ((conv => whnf); first | refine stp ?_ ))
    exact Vs.Fin.mk (WkR.refl _) (.refl _)
  (repeat' ((conv => whnf); first | refine stp ?_ | refine Cl.mk (s_l1In _ _ _) ?_ | refine Cl.pre (by simp only [shcLL_ints, shcLL_byts, shcLL_strs, Adve.shcs, Fetc.shcs, Gran.shcs, Mani.shcs, Name.shcs, Read.shcs, Segm.shcs]; rfl) ?_))
  refine Br.mk (fun h1 => ?_) (fun h1 => ?_)
  · rw [show vAdv a = false by simp_all [vAdv]]
    (repeat' ((conv => whnf); first | refine stp ?_ ))
    exact Vs.Fin.mk (WkR.refl _) (.refl _)
  (repeat' ((conv => whnf); first | refine stp ?_ ))
  refine Br.mk (fun h2 => ?_) (fun h2 => ?_)
  · rw [show vAdv a = false by (simp at h2; simp [vAdv]; intros; omega)]
    (repeat' ((conv => whnf); first | refine stp ?_ ))
    exact Vs.Fin.mk (WkR.refl _) (.refl _)
  rw [show vAdv a = (nbsOk a.origin none a.nbs && a.prefs.all vName) by simp at h0 h1 h2; simp [vAdv, h0, h1]; intros; omega]
  refine Lp.mk [.bx 1, .sl 1, .sl 3] (fun m σ => ∃ d r, a.nbs = d ++ r ∧ m = r.length ∧ nbsOk a.origin none a.nbs = nbsOk a.origin d.getLast? r ∧ σ = [Bx 1 ((Adve.c false a)), Pt 1, Sa 3 (I d.length)]) (a.nbs.length) _ (WkS.weak _ _) ⟨[], a.nbs, rfl, rfl, rfl, (by first | rfl | (simp only [zlen, zsum, Nat.zero_mul, Int.add_zero, Int.sub_zero, List.nil_append, markG]; rfl))⟩ ?_
  rintro m τ ⟨d, r, hl, rfl, hd, rfl⟩
  have hy : a.nbs.length = d.length + r.length := by rw [hl]; simp
  refine Nm.mk lenC ?_
  cases r with
  | nil =>
    refine Br.neg (by simp at *; omega) ?_
    rw [hd, nbsOk, Bool.true_and]
    (repeat' ((conv => whnf); first | refine stp ?_ ))
    refine Lp.mk [.bx 1, .sl 1, .sl 4] (fun m σ => ∃ d r, a.prefs = d ++ r ∧ m = r.length ∧ a.prefs.all vName = r.all vName ∧ σ = [Bx 1 ((Adve.c false a)), Pt 1, Sa 4 (I d.length)]) (a.prefs.length) _ (WkS.weak _ _) ⟨[], a.prefs, rfl, rfl, rfl, (by first | rfl | (simp only [zlen, zsum, Nat.zero_mul, Int.add_zero, Int.sub_zero, List.nil_append, markG]; rfl))⟩ ?_
    rintro m τ ⟨d, r, hl, rfl, hd, rfl⟩
    have hy : a.prefs.length = d.length + r.length := by rw [hl]; simp
    refine Nm.mk lenC ?_
    cases r with
    | nil =>
      refine Br.neg (by simp at *; omega) ?_
      (repeat' ((conv => whnf); first | refine stp ?_ ))
      rw [hd]
      exact Vs.Fin.mk (WkR.refl _) (.refl _)
    | cons x r =>
      have hx := nm_in (l := a.prefs) (x := x) (z := 1099511627776) (by omega) (by rw [hl]; simp)
      simp at hy
      refine Br.pos (by simp; omega) ?_
      (repeat' ((conv => whnf); first | refine stp ?_ | refine El.mk (getH hl rfl) ?_ | refine Cl.mk (s_ValidName x (by omega)) ?_ | refine Cl.pre (by simp only [shcLL_ints, shcLL_byts, shcLL_strs, Adve.shcs, Fetc.shcs, Gran.shcs, Mani.shcs, Name.shcs, Read.shcs, Segm.shcs]; rfl) ?_))
      refine Br.mk (fun a1 => ?_) (fun a1 => ?_)
      · rw [hd, show (x :: r).all vName = false by simp_all]
        (repeat' ((conv => whnf); first | refine stp ?_ ))
        exact Vs.Fin.mk (WkR.refl _) (.refl _)
      (repeat' ((conv => whnf); first | refine stp ?_ ))
      refine Nx.intro r.length (by simp) _ (WkS.weak _ _) ⟨d ++ [x], r, by simp [hl], rfl, by rw [hd]; simp_all, ?_⟩
      rw [len1]; rfl
  | cons x r =>
    simp at hy
    refine Br.pos (by simp; omega) ?_
    rcases lastA d with rfl | ⟨d', q, rfl⟩
    · (repeat' ((conv => whnf); first | refine stp ?_ | refine Br.mk (fun _ => ?_) (fun _ => ?_) | refine El.mk (getH hl rfl) ?_ | refine Cl.mk (s_l1In _ _ _) ?_ | refine Cl.pre (by simp only [shcLL_ints, shcLL_byts, shcLL_strs, Adve.shcs, Fetc.shcs, Gran.shcs, Mani.shcs, Name.shcs, Read.shcs, Segm.shcs]; rfl) ?_))
      all_goals first
        | (refine Vs.Fin.mk (WkR.eq ?_) (.refl _); rw [hd, nbsOk, show okNb a.origin (List.getLast? ([] : List Int)) x = false by first | (simp_all [okNb]; done) | (simp_all [okNb]; omega) | (simp_all [okNb]; intros; omega)]; rfl)
        | (refine Nx.intro r.length (by simp) _ (WkS.weak _ _) ⟨[x], r, by simp [hl], rfl, by rw [hd, nbsOk, show okNb a.origin (List.getLast? ([] : List Int)) x = true by simp_all [okNb]]; rfl, ?_⟩; rfl)
        | (exfalso; simp at * <;> omega)
    · have hl2 : a.nbs = d' ++ q :: (x :: r) := by rw [hl]; simp
      simp at hy
      (repeat' ((conv => whnf); first | refine stp ?_ | refine Br.mk (fun _ => ?_) (fun _ => ?_) | refine El.mk (getH hl rfl) ?_ | refine El.mk (getH hl2 (by simp)) ?_ | refine Cl.mk (s_l1In _ _ _) ?_ | refine Cl.pre (by simp only [shcLL_ints, shcLL_byts, shcLL_strs, Adve.shcs, Fetc.shcs, Gran.shcs, Mani.shcs, Name.shcs, Read.shcs, Segm.shcs]; rfl) ?_))
      all_goals first
        | (refine Vs.Fin.mk (WkR.eq ?_) (.refl _); rw [hd, nbsOk, show okNb a.origin (List.getLast? (d' ++ [q])) x = false by first | (simp_all [okNb]; done) | (simp_all [okNb]; omega) | (simp_all [okNb]; intros; omega)]; rfl)
        | (refine Nx.intro r.length (by simp) _ (WkS.weak _ _) ⟨d' ++ [q] ++ [x], r, by simp [hl], rfl, by rw [hd, nbsOk, show okNb a.origin (List.getLast? (d' ++ [q])) x = true by simp_all [okNb]]; simp, ?_⟩; rw [len1 (d := d' ++ [q]) (x := x)]; rfl)
        | (exfalso; simp at * <;> omega)
end Go.Proofs.Ytoekfmkbkffciaa
