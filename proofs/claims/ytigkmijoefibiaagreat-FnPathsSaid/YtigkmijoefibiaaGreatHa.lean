/- Contracts of functions of the program: no statement of the seat is proved here. Each under the conditions that stand in it. -/
import Derived.Test.YtigkmijoefibiaaGreatSb
import Derived.Test.YtigkmijoefibiaaGreatFz3
set_option linter.all false
namespace Go.Proofs.YtigkmijoefibiaaGreat
open Go.Vs Go.Proofs
/-! Routes -/
theorem rt_len {l : List Rout} {r : Rout} {z : Nat} (hz : l.length + sumN Rout.size l ≤ z) (h : r ∈ l) : strsSize r.pref.parts ≤ z ∧ r.pref.parts.length ≤ z := by
  have := sumN_mem Rout.size h
  have h2 : Rout.size r = strsSize r.pref.parts := rfl
  have h3 : r.pref.parts.length ≤ strsSize r.pref.parts := by unfold strsSize; omega
  omega
def sameT (p : Name) (f : Int) (r : Rout) : Bool := (r.face == f) && decide (r.pref = p)
def okT (r : Rout) : Bool := vName r.pref && inR r.face 1 6 && inR r.cost 0 1000
def vTG : List Rout → List Rout → Bool
  | _, [] => true
  | d, r :: l => (okT r && !d.any (sameT r.pref r.face)) && vTG (d ++ [r]) l
def vRou (l : List Rout) : Bool := vTG [] l && decide (l.length ≤ 24)
theorem vRou_no {l d r : List Rout} {x : Rout} (h : vTG [] l = vTG d (x :: r)) (hx : (okT x && !d.any (sameT x.pref x.face)) = false) : vRou l = false := by
  simp only [vRou, h, vTG, hx, Bool.false_and]
theorem takeD2 {α : Type} {c : α → List AV} {d r : List α} : (((d ++ r).map c).take ((d.length : Nat) : Int).toNat).drop (0 : Int).toNat = d.map c := by simp
abbrev Rl (l : List Rout) : Arg := O (sl false 3 (l.map (Rout.c false)))
theorem is104 : FI 104 Tryz.f104 := ⟨⟨Tryz.f104, Tryz.func104, rfl, rfl, rfl, rfl⟩, rfl⟩
set_option maxRecDepth 20000 in
set_option maxHeartbeats 16000000 in
theorem s_l14Find (l : List Rout) (p : Name) (f : Int) (hz : l.length + sumN Rout.size l ≤ 8388608) (hp : strsSize p.parts ≤ 8388608) : FO 104 [Rl l, A (Name.c false p), I f] [Rl l, A (Name.c false p), I f] (I (findI (sameT p f) l 0)) := by
  refine fok envOk mixed is104 ⟨rfl, rfl, ?_⟩
  have hpl := strs_len hp
  refine Lp.mk [.sl 0, .sl 2, .bx 4, .sl 4, .sl 7] (fun m σ => ∃ d r, l = d ++ r ∧ m = r.length ∧ d.any (sameT p f) = false ∧ σ = [Sa 0 (Rl l), Sa 2 (I f), Bx 4 ((Name.c false p)), Pt 4, Sa 7 (I d.length)]) (l.length) _ (WkS.weak _ _) ⟨[], l, rfl, rfl, rfl, (by first | rfl | (simp only [zlen, zsum, Nat.zero_mul, Int.add_zero, Int.sub_zero, List.nil_append, markG]; rfl))⟩ ?_
  rintro m τ ⟨d, r, rfl, rfl, hd, rfl⟩
  refine Nm.mk lenC ?_
  cases r with
  | nil =>
    refine Br.neg (by simp) ?_
    (repeat' ((conv => whnf); first | refine stp ?_ | refine Br.mk (fun _ => ?_) (fun _ => ?_) ))
    refine Vs.Fin.mk (WkR.eq ?_) (.refl _)
    rw [findI_none (by simpa using hd)]
  | cons x r =>
    have hx := (rt_len hz (r := x) (by simp)).2
    simp at hz
    refine Br.pos (by simp; omega) ?_
    (repeat' ((conv => whnf); first | refine stp ?_ | refine Br.mk (fun _ => ?_) (fun _ => ?_) | refine El.mk (getA rfl) ?_ | refine Cl.mk (s_EqualNames x.pref p (by omega) (by omega)) ?_ | refine Cl.pre (by simp only [shcLL_ints, shcLL_byts, shcLL_strs, Keyy.shcs, Mani.shcs, Name.shcs, Rout.shcs, Segm.shcs, TEnt.shcs]; rfl) ?_))
    all_goals first
      | (refine Nx.intro r.length (by simp) _ (WkS.weak _ _) ⟨d ++ [x], r, by simp, rfl, by simp_all [sameT], ?_⟩; rw [len1]; rfl)
      | (refine Vs.Fin.mk (WkR.eq ?_) (.refl _); rw [findI_at hd (by simp_all [sameT])]; simp)
theorem is178 : FI 178 Tryz.f178 := ⟨⟨Tryz.f178, Tryz.func178, rfl, rfl, rfl, rfl⟩, rfl⟩
set_option maxRecDepth 20000 in
set_option maxHeartbeats 16000000 in
theorem i_routeAt_1 (r : Rout) (p : Name) (f : Int) (hr : r.pref.parts.length ≤ 1099511627776) : FO 178 [A (Rout.c false r), O (.cp [cI f] 0), O (.cp (Name.c false p) 0)] [A (Rout.c false r), O (.cp [cI f] 0), O (.cp (Name.c false p) 0)] (B (sameT p f r)) := by
  refine fok envOk mixed is178 ⟨rfl, rfl, ?_⟩
  (repeat' ((conv => whnf); first | refine stp ?_ | refine Br.mk (fun _ => ?_) (fun _ => ?_) | refine Cl.mk (i_EqualNames r.pref p hr) ?_ | refine Cl.pre (by simp only [shcLL_ints, shcLL_byts, shcLL_strs, Keyy.shcs, Mani.shcs, Name.shcs, Rout.shcs, Segm.shcs, TEnt.shcs]; rfl) ?_))
  all_goals (refine Vs.Fin.mk (WkR.eq ?_) (.refl _); simp_all [sameT])
theorem is96 : FI 96 Tryz.f96 := ⟨⟨Tryz.f96, Tryz.func96, rfl, rfl, rfl, rfl⟩, rfl⟩
set_option maxRecDepth 20000 in
set_option maxHeartbeats 16000000 in
theorem i_routeAt (l : List Rout) (p : Name) (f : Int) (hz : l.length + sumN Rout.size l ≤ 8388608) (hp : strsSize p.parts ≤ 8388608) : FO 96 [Rl l, A (Name.c false p), I f] [Rl l, A (Name.c false p), I f] (I (findI (sameT p f) l 0)) := by
  refine fok envOk mixed is96 ⟨rfl, rfl, ?_⟩
  (repeat' ((conv => whnf); first | refine stp ?_ | refine Br.mk (fun _ => ?_) (fun _ => ?_) | refine Cl.mk (IndexFunc_Rout2 (by omega) (fun x hx => i_routeAt_1 x p f (by have := rt_len hz hx; omega))) ?_ | refine Cl.pre (by simp only [shcLL_ints, shcLL_byts, shcLL_strs, Keyy.shcs, Mani.shcs, Name.shcs, Rout.shcs, Segm.shcs, TEnt.shcs]; rfl) ?_))
  exact ⟨WkR.refl _, .refl _⟩
theorem rt_pre {d r : List Rout} {z : Nat} (h : (d ++ r).length + sumN Rout.size (d ++ r) ≤ z) : d.length + sumN Rout.size d ≤ z := by
  rw [sumN_append] at h; simp at h; omega
theorem is183 : FI 183 Tryz.f183 := ⟨⟨Tryz.f183, Tryz.func183, rfl, rfl, rfl, rfl⟩, rfl⟩
set_option maxRecDepth 20000 in
set_option maxHeartbeats 16000000 in
theorem s_ValidRoutes (l : List Rout) (hz : l.length + sumN Rout.size l ≤ 8388608) : FO 183 [Rl l] [Rl l] (B (vRou l)) := by
  refine fok envOk mixed is183 ⟨rfl, rfl, ?_⟩
  refine Lp.mk [.sl 0, .sl 3] (fun m σ => ∃ d r, l = d ++ r ∧ m = r.length ∧ vTG [] l = vTG d r ∧ σ = [Sa 0 (Rl l), Sa 3 (I d.length)]) (l.length) _ (WkS.weak _ _) ⟨[], l, rfl, rfl, rfl, (by first | rfl | (simp only [zlen, zsum, Nat.zero_mul, Int.add_zero, Int.sub_zero, List.nil_append, markG]; rfl))⟩ ?_
  rintro m τ ⟨d, r, hl, rfl, hd, rfl⟩
  have hll : l.length = d.length + r.length := by rw [hl]; simp
  refine Nm.mk lenC ?_
  cases r with
  | nil =>
    refine Br.neg (by simp at *; omega) ?_
    (repeat' ((conv => whnf); first | refine stp ?_ ))
    refine Vs.Fin.mk (WkR.eq ?_) (.refl _)
    simp [vRou, hd, vTG]
    omega
  | cons x r =>
    have hx := rt_len hz (r := x) (by rw [hl]; simp)
    have hno := fun h => vRou_no hd h
    have hpre := rt_pre (d := d) (r := x :: r) (by rw [← hl]; exact hz)
    simp at hll
    have hf := s_l14Find d x.pref x.face hpre hx.1
    have hge := findI_ge (p := sameT x.pref x.face) d 0 (by omega)
    refine Br.pos (by simp; omega) ?_
    (repeat' ((conv => whnf); first | refine stp ?_ | refine El.mk (getH hl rfl) ?_ | refine Cl.mk (s_ValidName x.pref (by omega)) ?_ | refine Cl.pre (by simp only [shcLL_ints, shcLL_byts, shcLL_strs, Keyy.shcs, Mani.shcs, Name.shcs, Rout.shcs, Segm.shcs, TEnt.shcs]; rfl) ?_))
    refine Br.mk (fun a1 => ?_) (fun a1 => ?_)
    · rw [hno (by simp_all [okT])]
      (repeat' ((conv => whnf); first | refine stp ?_ ))
      exact Vs.Fin.mk (WkR.refl _) (.refl _)
    (repeat' ((conv => whnf); first | refine stp ?_ | refine El.mk (getH hl rfl) ?_ | refine Cl.mk (s_l1In _ _ _) ?_ | refine Cl.pre (by simp only [shcLL_ints, shcLL_byts, shcLL_strs, Keyy.shcs, Mani.shcs, Name.shcs, Rout.shcs, Segm.shcs, TEnt.shcs]; rfl) ?_))
    refine Br.mk (fun a2 => ?_) (fun a2 => ?_)
    · rw [hno (by simp_all [okT])]
      (repeat' ((conv => whnf); first | refine stp ?_ ))
      exact Vs.Fin.mk (WkR.refl _) (.refl _)
    (repeat' ((conv => whnf); first | refine stp ?_ | refine El.mk (getH hl rfl) ?_ | refine Cl.mk (s_l1In _ _ _) ?_ | refine Cl.pre (by simp only [shcLL_ints, shcLL_byts, shcLL_strs, Keyy.shcs, Mani.shcs, Name.shcs, Rout.shcs, Segm.shcs, TEnt.shcs]; rfl) ?_))
    refine Br.mk (fun a3 => ?_) (fun a3 => ?_)
    · rw [hno (by simp_all [okT])]
      (repeat' ((conv => whnf); first | refine stp ?_ ))
      exact Vs.Fin.mk (WkR.refl _) (.refl _)
    (repeat' ((conv => whnf); first | refine stp ?_ | refine El.mk (getH hl rfl) ?_ | refine Cl.eq hf (by rw [hl, takeD2] <;> rfl) ?_ | refine Cl.pre (by simp only [shcLL_ints, shcLL_byts, shcLL_strs, Keyy.shcs, Mani.shcs, Name.shcs, Rout.shcs, Segm.shcs, TEnt.shcs]; rfl) ?_))
    rw [hge]
    refine Br.mk (fun a4 => ?_) (fun a4 => ?_)
    · rw [hno (by simp_all [okT])]
      (repeat' ((conv => whnf); first | refine stp ?_ ))
      exact Vs.Fin.mk (WkR.refl _) (.refl _)
    (repeat' ((conv => whnf); first | refine stp ?_ ))
    refine Nx.intro r.length (by simp) _ (WkS.weak _ _) ⟨d ++ [x], r, by simp [hl], rfl, by rw [hd]; simp_all [vTG, okT], ?_⟩
    rw [len1]; rfl
theorem is44 : FI 44 Tryz.f44 := ⟨⟨Tryz.f44, Tryz.func44, rfl, rfl, rfl, rfl⟩, rfl⟩
set_option maxRecDepth 20000 in
set_option maxHeartbeats 16000000 in
theorem i_ValidRoutes (l : List Rout) (hz : l.length + sumN Rout.size l ≤ 8388608) : FO 44 [Rl l] [Rl l] (B (vRou l)) := by
  refine fok envOk mixed is44 ⟨rfl, rfl, ?_⟩
  (repeat' ((conv => whnf); first | refine stp ?_ ))
  refine Lp.mk [.sl 0, .sl 5, .sl 6, .sl 7] (fun m σ => ∃ d r, l = d ++ r ∧ m = r.length ∧ vTG [] l = vTG d r ∧ σ = [Sa 0 (Rl l), Sa 5 (O (sl false 3 (l.map (Rout.c false)))), Sa 6 (I l.length), Sa 7 (I d.length)]) (l.length) _ (WkS.weak _ _) ⟨[], l, rfl, rfl, rfl, (by first | rfl | (simp only [zlen, zsum, Nat.zero_mul, Int.add_zero, Int.sub_zero, List.nil_append, markG]; rfl))⟩ ?_
  rintro m τ ⟨d, r, hl, rfl, hd, rfl⟩
  have hll : l.length = d.length + r.length := by rw [hl]; simp
  cases r with
  | nil =>
    refine Br.neg (by simp at *; omega) ?_
    (repeat' ((conv => whnf); first | refine stp ?_ ))
    refine Vs.Fin.mk (WkR.eq ?_) (.refl _)
    simp [vRou, hd, vTG]
    omega
  | cons x r =>
    have hx := rt_len hz (r := x) (by rw [hl]; simp)
    have hno := fun h => vRou_no hd h
    have hpre := rt_pre (d := d) (r := x :: r) (by rw [← hl]; exact hz)
    simp at hll
    have hf := i_routeAt d x.pref x.face hpre hx.1
    have hge := findI_ge (p := sameT x.pref x.face) d 0 (by omega)
    refine Br.pos (by simp; omega) ?_
    (repeat' ((conv => whnf); first | refine stp ?_ | refine El.mk (getH hl rfl) ?_ | refine Cl.mk (i_ValidName x.pref (by omega)) ?_ | refine Cl.pre (by simp only [shcLL_ints, shcLL_byts, shcLL_strs, Keyy.shcs, Mani.shcs, Name.shcs, Rout.shcs, Segm.shcs, TEnt.shcs]; rfl) ?_))
    refine Br.mk (fun a1 => ?_) (fun a1 => ?_)
    · rw [hno (by simp_all [okT])]
      (repeat' ((conv => whnf); first | refine stp ?_ ))
      exact Vs.Fin.mk (WkR.refl _) (.refl _)
    (repeat' ((conv => whnf); first | refine stp ?_ | refine Cl.mk (i_InRange _ _ _) ?_ | refine Cl.pre (by simp only [shcLL_ints, shcLL_byts, shcLL_strs, Keyy.shcs, Mani.shcs, Name.shcs, Rout.shcs, Segm.shcs, TEnt.shcs]; rfl) ?_))
    refine Br.mk (fun a2 => ?_) (fun a2 => ?_)
    · rw [hno (by simp_all [okT])]
      (repeat' ((conv => whnf); first | refine stp ?_ ))
      exact Vs.Fin.mk (WkR.refl _) (.refl _)
    (repeat' ((conv => whnf); first | refine stp ?_ | refine Cl.mk (i_InRange _ _ _) ?_ | refine Cl.pre (by simp only [shcLL_ints, shcLL_byts, shcLL_strs, Keyy.shcs, Mani.shcs, Name.shcs, Rout.shcs, Segm.shcs, TEnt.shcs]; rfl) ?_))
    refine Br.mk (fun a3 => ?_) (fun a3 => ?_)
    · rw [hno (by simp_all [okT])]
      (repeat' ((conv => whnf); first | refine stp ?_ ))
      exact Vs.Fin.mk (WkR.refl _) (.refl _)
    (repeat' ((conv => whnf); first | refine stp ?_ | refine Cl.eq hf (by rw [hl, takeD2] <;> rfl) ?_ | refine Cl.pre (by simp only [shcLL_ints, shcLL_byts, shcLL_strs, Keyy.shcs, Mani.shcs, Name.shcs, Rout.shcs, Segm.shcs, TEnt.shcs]; rfl) ?_))
    rw [hge]
    refine Br.mk (fun a4 => ?_) (fun a4 => ?_)
    · rw [hno (by simp_all [okT])]
      (repeat' ((conv => whnf); first | refine stp ?_ ))
      exact Vs.Fin.mk (WkR.refl _) (.refl _)
    (repeat' ((conv => whnf); first | refine stp ?_ ))
    refine Nx.intro r.length (by simp) _ (WkS.weak _ _) ⟨d ++ [x], r, by simp [hl], rfl, by rw [hd]; simp_all [vTG, okT], ?_⟩
    rw [len1]; rfl
theorem is182 : FI 182 Tryz.f182 := ⟨⟨Tryz.f182, Tryz.func182, rfl, rfl, rfl, rfl⟩, rfl⟩
set_option maxRecDepth 20000 in
set_option maxHeartbeats 16000000 in
theorem s_l14Copy (l : List Rout) (hz : l.length + sumN Rout.size l ≤ 8388608) : FO 182 [Rl l] [Rl l] (O (sl true 3 (l.map (Rout.c true)))) := by
  refine fok envOk mixed is182 ⟨rfl, rfl, ?_⟩
  refine Lp.mk [.sl 0, .sl 3, .sl 4] (fun m σ => ∃ d r, l = d ++ r ∧ m = r.length ∧ σ = [Sa 0 (Rl l), Sa 3 (O (.sl true .non 3 (d.map (Rout.c true)))), Sa 4 (I d.length)]) (l.length) _ (WkS.weak _ _) ⟨[], l, rfl, rfl, (by first | rfl | (simp only [zlen, zsum, Nat.zero_mul, Int.add_zero, Int.sub_zero, List.nil_append, markG]; rfl))⟩ ?_
  rintro m τ ⟨d, r, rfl, rfl, rfl⟩
  refine Nm.mk lenC ?_
  cases r with
  | nil =>
    refine Br.neg (by simp) ?_
    (repeat' ((conv => whnf); first | refine stp ?_ | refine Br.mk (fun _ => ?_) (fun _ => ?_) ))
    exact Vs.Fin.mk (WkR.of (.sl1 (by simp) .nil)) (.refl _)
  | cons x r =>
    have hx := (rt_len hz (r := x) (by simp)).1
    simp at hz
    refine Br.pos (by simp; omega) ?_
    (repeat' ((conv => whnf); first | refine stp ?_ | refine El.mk (getA rfl) ?_ | refine Cl.mk (s_l4Copy x.pref (by omega)) ?_ | refine Cl.pre (by simp only [shcLL_ints, shcLL_byts, shcLL_strs, Keyy.shcs, Mani.shcs, Name.shcs, Rout.shcs, Segm.shcs, TEnt.shcs]; rfl) ?_))
    refine Nx.intro r.length (by simp) _ (WkS.weak _ _) ⟨d ++ [x], r, by simp, rfl, ?_⟩
    (repeat' (first | exact rfl | refine consE ?_ ?_ | refine entE ?_ | refine vI ?_ | refine vS ?_ | refine vT ?_ | refine vB ?_))
    · simp
    · simp
theorem is162 : FI 162 Tryz.f162 := ⟨⟨Tryz.f162, Tryz.func162, rfl, rfl, rfl, rfl⟩, rfl⟩
set_option maxRecDepth 20000 in
set_option maxHeartbeats 16000000 in
theorem i_copyRoutes (l : List Rout) (hz : l.length + sumN Rout.size l ≤ 1048576) : FO 162 [Rl l] [Rl l] (O (sl true 3 (l.map (Rout.c true)))) := by
  refine fok envOk mixed is162 ⟨rfl, rfl, ?_⟩
  (repeat' ((conv => whnf); first | refine stp ?_ ))
  refine Lp.mk [.sl 3, .sl 7, .sl 8, .sl 9] (fun m σ => ∃ d r, l = d ++ r ∧ m = r.length ∧ σ = [Sa 3 (O (.sl true .non 3 (d.map (Rout.c true)))), Sa 7 (O (sl false 3 (l.map (Rout.c false)))), Sa 8 (I l.length), Sa 9 (I d.length)]) (l.length) _ (WkS.weak _ _) ⟨[], l, rfl, rfl, (by first | rfl | (simp only [zlen, zsum, Nat.zero_mul, Int.add_zero, Int.sub_zero, List.nil_append, markG]; rfl))⟩ ?_
  rintro m τ ⟨d, r, rfl, rfl, rfl⟩
  cases r with
  | nil =>
    refine Br.neg (by simp) ?_
    (repeat' ((conv => whnf); first | refine stp ?_ | refine Br.mk (fun _ => ?_) (fun _ => ?_) ))
    exact Vs.Fin.mk (WkR.of (.sl1 (by simp) .nil)) (.refl _)
  | cons x r =>
    have hx := (rt_len hz (r := x) (by simp)).2
    simp at hz
    refine Br.pos (by simp; omega) ?_
    (repeat' ((conv => whnf); first | refine stp ?_ | refine El.mk (getA rfl) ?_ | refine Cl.mk (i_copyName x.pref (by omega)) ?_ | refine Cl.pre (by simp only [shcLL_ints, shcLL_byts, shcLL_strs, Keyy.shcs, Mani.shcs, Name.shcs, Rout.shcs, Segm.shcs, TEnt.shcs]; rfl) ?_))
    refine Nx.intro r.length (by simp) _ (WkS.weak _ _) ⟨d ++ [x], r, by simp, rfl, ?_⟩
    (repeat' (first | exact rfl | refine consE ?_ ?_ | refine entE ?_ | refine vI ?_ | refine vS ?_ | refine vT ?_ | refine vB ?_))
    · simp
    · simp
abbrev TB (l : List Rout) (b : Bool) : Arg := (.tup [(false, 1), (false, 1)], [sl true 3 (l.map (Rout.c true)), cB b])
def putT (r : Rout) : List Rout → List Rout
  | [] => [r]
  | x :: l => if sameT r.pref r.face x then { x with cost := r.cost } :: l else x :: putT r l
theorem putT_none {r : Rout} : ∀ {l : List Rout}, l.any (sameT r.pref r.face) = false → putT r l = l ++ [r]
  | [], _ => rfl
  | x :: l, h => by simp at h; simp [putT, h.1]; exact putT_none (by simpa using h.2)
theorem putT_at {r x : Rout} : ∀ {d t : List Rout}, d.any (sameT r.pref r.face) = false → sameT r.pref r.face x = true → putT r (d ++ x :: t) = d ++ { x with cost := r.cost } :: t
  | [], t, _, h => by simp [putT, h]
  | y :: d, t, h1, h => by simp at h1; simp [putT, h1.1]; exact putT_at (by simpa using h1.2) h
theorem putT_size (r : Rout) : ∀ (l : List Rout), (putT r l).length + sumN Rout.size (putT r l) ≤ l.length + sumN Rout.size l + 1 + Rout.size r
  | [] => by simp [putT, sumN] <;> omega
  | x :: l => by
    have := putT_size r l
    unfold putT
    split
    · simp only [sumN, List.length_cons]
      have : Rout.size { x with cost := r.cost } = Rout.size x := rfl
      omega
    · simp only [sumN, List.length_cons]; omega
def addT (l : List Rout) (r : Rout) : List Rout := if vRou (putT r l) then putT r l else l
theorem find_splitT {α : Type} {p : α → Bool} : ∀ (l : List α), l.any p = false ∨ ∃ d x r, l = d ++ x :: r ∧ d.any p = false ∧ p x = true
  | [] => .inl rfl
  | x :: l => by
    cases h : p x with
    | true => exact .inr ⟨[], x, l, rfl, rfl, h⟩
    | false =>
      rcases find_splitT (p := p) l with h1 | ⟨d, y, r, rfl, h2, h3⟩
      · exact .inl (by simp [h, h1])
      · exact .inr ⟨x :: d, y, r, rfl, by simp [h, h2], h3⟩
theorem is105 : FI 105 Tryz.f105 := ⟨⟨Tryz.f105, Tryz.func105, rfl, rfl, rfl, rfl⟩, rfl⟩
set_option maxRecDepth 20000 in
set_option maxHeartbeats 16000000 in
theorem s_AddRoute (l : List Rout) (r : Rout) (hz : l.length + sumN Rout.size l ≤ 1048576) (hr : Rout.size r ≤ 1048576) : FO 105 [Rl l, A (Rout.c false r)] [Rl l, A (Rout.c false r)] (TB (addT l r) (vRou (putT r l))) := by
  refine fok envOk mixed is105 ⟨rfl, rfl, ?_⟩
  have hs : Rout.size r = strsSize r.pref.parts := rfl
  have hps := putT_size r l
  have hfd := s_l14Find l r.pref r.face (by omega) (by omega)
  have hvr := s_ValidRoutes (putT r l) (by omega)
  have key : ∀ b, b = vRou (putT r l) → addT l r = if b then putT r l else l := by rintro b rfl; rfl
  rcases find_splitT (p := sameT r.pref r.face) l with h1 | ⟨d, x, t, e, h2, h3⟩
  · rw [findI_none h1] at hfd
    rw [putT_none h1] at hvr key ⊢
    (repeat' ((conv => whnf); first | refine stp ?_ | refine Cl.mk (s_l14Copy l (by omega)) ?_ | refine Cl.mk (hfd) ?_ | refine Cl.mk (s_l4Copy r.pref (by omega)) ?_ | refine Cl.eq hvr (by simp [shcLL_append, shcLL, shcL, Vs.shc]) ?_ | refine Cl.pre (by simp only [shcLL_ints, shcLL_byts, shcLL_strs, Keyy.shcs, Mani.shcs, Name.shcs, Rout.shcs, Segm.shcs, TEnt.shcs]; rfl) ?_))
    cases hv : vRou (l ++ [r]) with
    | true =>
      rw [key true hv.symm]
      refine Br.neg (by simp [hv]) ?_
      (repeat' ((conv => whnf); first | refine stp ?_ ))
      refine Vs.Fin.mk (WkR.eq ?_) (.refl _)
      simp [apF]
    | false =>
      rw [key false hv.symm]
      refine Br.pos (by simp [hv]) ?_
      (repeat' ((conv => whnf); first | refine stp ?_ | refine Cl.mk (s_l14Copy l (by omega)) ?_ | refine Cl.pre (by simp only [shcLL_ints, shcLL_byts, shcLL_strs, Keyy.shcs, Mani.shcs, Name.shcs, Rout.shcs, Segm.shcs, TEnt.shcs]; rfl) ?_))
      exact Vs.Fin.mk (WkR.refl _) (.refl _)
  · have hfx : findI (sameT r.pref r.face) l 0 = (d.length : Int) := by rw [e, findI_at h2 h3]; simp
    rw [hfx] at hfd
    have hll : l.length = d.length + (t.length + 1) := by rw [e]; simp
    have f1 : decide ((d.length : Int) ≥ 0) = true := by simp
    have hset : (l.map (Rout.c true)).set ((d.length : Int).toNat) (spliceAV (Rout.c true x) 2 [cI r.cost]) = (putT r l).map (Rout.c true) := by
      rw [e, putT_at h2 h3]; simp [List.set_append, spliceAV]
    have hvr2 : ∀ z, z = (putT r l).map (Rout.c true) → FO 183 [O (.sl false .unk 3 (shcLL z))] [O (.sl false .unk 3 (shcLL z))] (B (vRou (putT r l))) := by
      rintro z rfl; rw [Rout.shcs]; exact hvr
    (repeat' ((conv => whnf); first | refine stp ?_ | refine Cl.mk (s_l14Copy l (by omega)) ?_ | refine Cl.mk (hfd) ?_ | refine El.mk (getH e rfl) ?_ | refine Cl.mk (hvr2 _ hset) ?_ | refine Cl.pre (by simp only [shcLL_ints, shcLL_byts, shcLL_strs, Keyy.shcs, Mani.shcs, Name.shcs, Rout.shcs, Segm.shcs, TEnt.shcs]; rfl) ?_))
    cases hv : vRou (putT r l) with
    | true =>
      rw [key true hv.symm]
      refine Br.neg (by simp [hv]) ?_
      (repeat' ((conv => whnf); first | refine stp ?_ ))
      refine Vs.Fin.mk (WkR.eq ?_) (.refl _)
      show _ = [sl true 3 ((putT r l).map (Rout.c true)), cB true]
      rw [← hset]; rfl
    | false =>
      rw [key false hv.symm]
      refine Br.pos (by simp [hv]) ?_
      (repeat' ((conv => whnf); first | refine stp ?_ | refine Cl.mk (s_l14Copy l (by omega)) ?_ | refine Cl.pre (by simp only [shcLL_ints, shcLL_byts, shcLL_strs, Keyy.shcs, Mani.shcs, Name.shcs, Rout.shcs, Segm.shcs, TEnt.shcs]; rfl) ?_))
      exact Vs.Fin.mk (WkR.refl _) (.refl _)
theorem is97 : FI 97 Tryz.f97 := ⟨⟨Tryz.f97, Tryz.func97, rfl, rfl, rfl, rfl⟩, rfl⟩
set_option maxRecDepth 20000 in
set_option maxHeartbeats 16000000 in
theorem i_AddRoute (l : List Rout) (r : Rout) (hz : l.length + sumN Rout.size l ≤ 1048576) (hr : Rout.size r ≤ 1048576) : FO 97 [Rl l, A (Rout.c false r)] [Rl l, A (Rout.c false r)] (TB (addT l r) (vRou (putT r l))) := by
  refine fok envOk mixed is97 ⟨rfl, rfl, ?_⟩
  have hs : Rout.size r = strsSize r.pref.parts := rfl
  have hln : r.pref.parts.length ≤ strsSize r.pref.parts := by unfold strsSize; omega
  have hps := putT_size r l
  have hfd := i_routeAt l r.pref r.face (by omega) (by omega)
  have hvr := i_ValidRoutes (putT r l) (by omega)
  have key : ∀ b, b = vRou (putT r l) → addT l r = if b then putT r l else l := by rintro b rfl; rfl
  rcases find_splitT (p := sameT r.pref r.face) l with h1 | ⟨d, x, t, e, h2, h3⟩
  · rw [findI_none h1] at hfd
    rw [putT_none h1] at hvr key ⊢
    (repeat' ((conv => whnf); first | refine stp ?_ | refine Cl.mk (i_copyRoutes l (by omega)) ?_ | refine Cl.mk (hfd) ?_ | refine Cl.mk (i_copyName r.pref (by omega)) ?_ | refine Cl.eq hvr (by simp [shcLL_append, shcLL, shcL, Vs.shc]) ?_ | refine Cl.pre (by simp only [shcLL_ints, shcLL_byts, shcLL_strs, Keyy.shcs, Mani.shcs, Name.shcs, Rout.shcs, Segm.shcs, TEnt.shcs]; rfl) ?_))
    cases hv : vRou (l ++ [r]) with
    | true =>
      rw [key true hv.symm]
      refine Br.neg (by simp [hv]) ?_
      (repeat' ((conv => whnf); first | refine stp ?_ ))
      refine Vs.Fin.mk (WkR.eq ?_) (.refl _)
      simp [apF]
    | false =>
      rw [key false hv.symm]
      refine Br.pos (by simp [hv]) ?_
      (repeat' ((conv => whnf); first | refine stp ?_ | refine Cl.mk (i_copyRoutes l (by omega)) ?_ | refine Cl.pre (by simp only [shcLL_ints, shcLL_byts, shcLL_strs, Keyy.shcs, Mani.shcs, Name.shcs, Rout.shcs, Segm.shcs, TEnt.shcs]; rfl) ?_))
      exact Vs.Fin.mk (WkR.refl _) (.refl _)
  · have hfx : findI (sameT r.pref r.face) l 0 = (d.length : Int) := by rw [e, findI_at h2 h3]; simp
    rw [hfx] at hfd
    have hll : l.length = d.length + (t.length + 1) := by rw [e]; simp
    have f1 : decide ((d.length : Int) ≥ 0) = true := by simp
    have hset : (l.map (Rout.c true)).set ((d.length : Int).toNat) (spliceAV (Rout.c true x) 2 [cI r.cost]) = (putT r l).map (Rout.c true) := by
      rw [e, putT_at h2 h3]; simp [List.set_append, spliceAV]
    have hvr2 : ∀ z, z = (putT r l).map (Rout.c true) → FO 44 [O (.sl false .unk 3 (shcLL z))] [O (.sl false .unk 3 (shcLL z))] (B (vRou (putT r l))) := by
      rintro z rfl; rw [Rout.shcs]; exact hvr
    (repeat' ((conv => whnf); first | refine stp ?_ | refine Cl.mk (i_copyRoutes l (by omega)) ?_ | refine Cl.mk (hfd) ?_ | refine El.mk (getH e rfl) ?_ | refine Cl.mk (hvr2 _ hset) ?_ | refine Cl.pre (by simp only [shcLL_ints, shcLL_byts, shcLL_strs, Keyy.shcs, Mani.shcs, Name.shcs, Rout.shcs, Segm.shcs, TEnt.shcs]; rfl) ?_))
    cases hv : vRou (putT r l) with
    | true =>
      rw [key true hv.symm]
      refine Br.neg (by simp [hv]) ?_
      (repeat' ((conv => whnf); first | refine stp ?_ ))
      refine Vs.Fin.mk (WkR.eq ?_) (.refl _)
      show _ = [sl true 3 ((putT r l).map (Rout.c true)), cB true]
      rw [← hset]; rfl
    | false =>
      rw [key false hv.symm]
      refine Br.pos (by simp [hv]) ?_
      (repeat' ((conv => whnf); first | refine stp ?_ | refine Cl.mk (i_copyRoutes l (by omega)) ?_ | refine Cl.pre (by simp only [shcLL_ints, shcLL_byts, shcLL_strs, Keyy.shcs, Mani.shcs, Name.shcs, Rout.shcs, Segm.shcs, TEnt.shcs]; rfl) ?_))
      exact Vs.Fin.mk (WkR.refl _) (.refl _)
end Go.Proofs.YtigkmijoefibiaaGreat
