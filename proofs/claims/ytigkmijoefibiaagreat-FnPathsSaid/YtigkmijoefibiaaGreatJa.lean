/- Contracts of functions of the program: no statement of the seat is proved here. Each under the conditions that stand in it. -/
import Derived.Test.YtigkmijoefibiaaGreatHa
import Derived.Test.YtigkmijoefibiaaGreatDj
set_option linter.all false
namespace Go.Proofs.YtigkmijoefibiaaGreat
open Go.Vs Go.Proofs
/-! Next hops -/
def gtR (x r : Rout) : Bool := decide (x.cost > r.cost) || (x.cost == r.cost && decide (x.face > r.face))
def putR (l : List Rout) (r : Rout) : List Rout := (l.reverse.dropWhile fun x => gtR x r).reverse ++ r :: (l.reverse.takeWhile fun x => gtR x r).reverse
theorem putR_at {d e : List Rout} {r : Rout} (he : ∀ x ∈ e, gtR x r = true) (hd : ∀ d' x, d = d' ++ [x] → gtR x r = false) : putR (d ++ e) r = d ++ r :: e := by
  have h : ∀ (a b : List Rout), (∀ x ∈ a, gtR x r = true) → (∀ x t, b = x :: t → gtR x r = false) → (a ++ b).takeWhile (fun x => gtR x r) = a ∧ (a ++ b).dropWhile (fun x => gtR x r) = b := by
    intro a
    induction a with
    | nil =>
      intro b _ hb
      cases b with
      | nil => simp
      | cons x t => simp [hb x t rfl]
    | cons y a ih =>
      intro b ha hb
      have := ih b (fun x hx => ha x (by simp [hx])) hb
      simp [ha y (by simp), this]
  obtain ⟨h1, h2⟩ := h e.reverse d.reverse (fun x hx => he x (by simpa using hx)) (fun x t hx => hd t.reverse x (by
    have := congrArg List.reverse hx
    simpa using this))
  unfold putR
  rw [List.reverse_append, h1, h2]
  simp
theorem putR_len (l : List Rout) (r : Rout) : (putR l r).length = l.length + 1 := by
  have h : (l.reverse.takeWhile fun x => gtR x r) ++ (l.reverse.dropWhile fun x => gtR x r) = l.reverse := List.takeWhile_append_dropWhile
  have := congrArg List.length h
  simp only [List.length_append, List.length_reverse] at this
  unfold putR
  simp only [List.length_append, List.length_cons, List.length_reverse]
  omega
def srt (l : List Rout) : List Rout := l.foldl putR []
theorem srt_snoc (l : List Rout) (r : Rout) : srt (l ++ [r]) = putR (srt l) r := by simp [srt]
theorem srt_len (l : List Rout) : (srt l).length = l.length := by
  have : ∀ (l o : List Rout), (l.foldl putR o).length = o.length + l.length := by
    intro l
    induction l with
    | nil => intro o; simp
    | cons x l ih => intro o; rw [List.foldl_cons, ih, putR_len]; simp; omega
  have := this l []
  simpa [srt] using this
def longer (b : Option Rout) (r : Rout) : Bool := match b with
  | none => true
  | some q => decide (r.pref.parts.length > q.pref.parts.length)
def stepB (n : Name) (b : Option Rout) (r : Rout) : Option Rout := if (hasPre n r.pref && longer b r) = true then some r else b
def mpre (l : List Rout) (n : Name) : Option Rout := l.foldl (stepB n) none
abbrev NBn (n : Name) (b : Bool) : Arg := (.tup [(true, 1), (false, 1)], [cSs true n.parts, cB b])
abbrev NBo (o : Option Rout) : Arg := match o with
  | none => NBn ⟨[]⟩ false
  | some r => NBn r.pref true
def hasP (q : Rout) (l : List Rout) : List Rout := l.filter fun r => decide (r.pref = q.pref)
theorem hasP_snoc (q : Rout) (l : List Rout) (r : Rout) : hasP q (l ++ [r]) = hasP q l ++ if r.pref = q.pref then [r] else [] := by
  simp only [hasP, List.filter_append, List.filter_cons, List.filter_nil]
  by_cases h : r.pref = q.pref <;> simp [h]
def nhop (l : List Rout) (n : Name) : List Int := match mpre l n with
  | none => []
  | some q => (srt (hasP q l)).map (·.face)
theorem shcLL_R (l : List Rout) : shcLL (l.map (Rout.c false)) = l.map (Rout.c false) := shcLL_map (fun _ => rfl) l
/-- The best so far, by its place. -/
def bestAt (l : List Rout) (b : Option Rout) (i : Int) : Prop := (b = none ∧ i = -1) ∨ ∃ (d r : List Rout) (q : Rout), l = d ++ q :: r ∧ b = some q ∧ i = d.length
theorem is154 : FI 154 Tryz.f154 := ⟨⟨Tryz.f154, Tryz.func154, rfl, rfl, rfl, rfl⟩, rfl⟩
set_option maxRecDepth 20000 in
set_option maxHeartbeats 16000000 in
theorem s_MPre (l : List Rout) (n : Name) (hz : l.length + sumN Rout.size l ≤ 8388608) (hn : strsSize n.parts ≤ 8388608) : FO 154 [Rl l, A (Name.c false n)] [Rl l, A (Name.c false n)] (NBo (mpre l n)) := by
  refine fok envOk mixed is154 ⟨rfl, rfl, ?_⟩
  have hnl := strs_len hn
  refine Lp.mk [.sl 0, .bx 3, .sl 3, .bx 4, .sl 4, .sl 6, .sl 7] (fun m σ => ∃ d r i, l = d ++ r ∧ m = r.length ∧ bestAt l (d.foldl (stepB n) none) i ∧ σ = [Sa 0 (Rl l), Bx 3 ((Name.c false n)), Pt 3, Bx 4 ([.sl true .isnil 0 []]), Pt 4, Sa 6 (I i), Sa 7 (I d.length)]) (l.length) _ (WkS.weak _ _) ⟨[], l, -1, rfl, rfl, .inl ⟨rfl, rfl⟩, (by first | rfl | (simp only [zlen, zsum, Nat.zero_mul, Int.add_zero, Int.sub_zero, List.nil_append, markG]; rfl))⟩ ?_
  rintro m τ ⟨d, r, i, hl, rfl, hb, rfl⟩
  have hy : l.length = d.length + r.length := by rw [hl]; simp
  refine Nm.mk lenC ?_
  cases r with
  | nil =>
    refine Br.neg (by simp at *; omega) ?_
    simp only [List.append_nil] at hl
    rw [show mpre l n = d.foldl (stepB n) none by rw [mpre, hl]]
    rcases hb with ⟨hb, rfl⟩ | ⟨d1, r1, q, h1, hb, rfl⟩
    · rw [hb]
      (repeat' ((conv => whnf); first | refine stp ?_ ))
      exact Vs.Fin.mk (WkR.of (.nils (.refl _))) (.refl _)
    · rw [hb]
      have hq := rt_len hz (r := q) (by rw [h1]; simp)
      have hi : d1.length < l.length := by rw [h1]; simp
      have f1 : decide ((d1.length : Int) < 0) = false := by simp
      (repeat' ((conv => whnf); first | refine stp ?_ | refine Rq.mk ⟨by omega, by rw [List.length_map]; omega⟩ ?_ | refine El.mk (getH h1 rfl) ?_ | refine Cl.mk (s_l4Copy q.pref (by omega)) ?_ | refine Cl.pre (by simp only [shcLL_ints, shcLL_byts, shcLL_strs, Adve.shcs, Fetc.shcs, Gran.shcs, Keyy.shcs, Link.shcs, Mani.shcs, Name.shcs, Read.shcs, Rout.shcs, Segm.shcs, TEnt.shcs, Topo.shcs]; rfl) ?_))
      exact Vs.Fin.mk (WkR.refl _) (.refl _)
  | cons x r =>
    have hx := rt_len hz (r := x) (by rw [hl]; simp)
    simp at hy
    refine Br.pos (by simp; omega) ?_
    have hH := s_HasPrefix n x.pref (by omega) (by omega)
    cases hp : hasPre n x.pref with
    | false =>
      rw [hp] at hH
      (repeat' ((conv => whnf); first | refine stp ?_ | refine El.mk (getH hl rfl) ?_ | refine Cl.mk (hH) ?_ | refine Cl.pre (by simp only [shcLL_ints, shcLL_byts, shcLL_strs, Adve.shcs, Fetc.shcs, Gran.shcs, Keyy.shcs, Link.shcs, Mani.shcs, Name.shcs, Read.shcs, Rout.shcs, Segm.shcs, TEnt.shcs, Topo.shcs]; rfl) ?_))
      refine Nx.intro r.length (by simp) _ (WkS.weak _ _) ⟨d ++ [x], r, i, by simp [hl], rfl, by simpa [stepB, hp] using hb, ?_⟩
      (repeat' (first | exact rfl | refine consE ?_ ?_ | refine entE ?_ | refine vI ?_ | refine vS ?_ | refine vT ?_ | refine vB ?_))
      all_goals simp
    | true =>
      rw [hp] at hH
      rcases hb with ⟨hb, rfl⟩ | ⟨d1, r1, q, h1, hb, rfl⟩
      · (repeat' ((conv => whnf); first | refine stp ?_ | refine El.mk (getH hl rfl) ?_ | refine Cl.mk (hH) ?_ | refine Cl.pre (by simp only [shcLL_ints, shcLL_byts, shcLL_strs, Adve.shcs, Fetc.shcs, Gran.shcs, Keyy.shcs, Link.shcs, Mani.shcs, Name.shcs, Read.shcs, Rout.shcs, Segm.shcs, TEnt.shcs, Topo.shcs]; rfl) ?_))
        refine Nx.intro r.length (by simp) _ (WkS.weak _ _) ⟨d ++ [x], r, d.length, by simp [hl], rfl, .inr ⟨d, r, x, hl, by simp [stepB, hp, hb, longer], rfl⟩, ?_⟩
        (repeat' (first | exact rfl | refine consE ?_ ?_ | refine entE ?_ | refine vI ?_ | refine vS ?_ | refine vT ?_ | refine vB ?_))
        all_goals simp
      · have f1 : decide ((d1.length : Int) < 0) = false := by simp
        have hi : d1.length < l.length := by rw [h1]; simp
        by_cases hlt : q.pref.parts.length < x.pref.parts.length
        · have f2 : decide ((x.pref.parts.length : Int) > (q.pref.parts.length : Int)) = true := by simp; omega
          (repeat' ((conv => whnf); first | refine stp ?_ | refine El.mk (getH hl rfl) ?_ | refine Cl.mk (hH) ?_ | refine Rq.mk ⟨by omega, by rw [List.length_map]; omega⟩ ?_ | refine El.mk (getH h1 rfl) ?_ | refine Cl.pre (by simp only [shcLL_ints, shcLL_byts, shcLL_strs, Adve.shcs, Fetc.shcs, Gran.shcs, Keyy.shcs, Link.shcs, Mani.shcs, Name.shcs, Read.shcs, Rout.shcs, Segm.shcs, TEnt.shcs, Topo.shcs]; rfl) ?_))
          refine Nx.intro r.length (by simp) _ (WkS.weak _ _) ⟨d ++ [x], r, d.length, by simp [hl], rfl, .inr ⟨d, r, x, hl, by simp [stepB, hp, hb, longer, hlt], rfl⟩, ?_⟩
          (repeat' (first | exact rfl | refine consE ?_ ?_ | refine entE ?_ | refine vI ?_ | refine vS ?_ | refine vT ?_ | refine vB ?_))
          all_goals simp
        · have f2 : decide ((x.pref.parts.length : Int) > (q.pref.parts.length : Int)) = false := by simp; omega
          (repeat' ((conv => whnf); first | refine stp ?_ | refine El.mk (getH hl rfl) ?_ | refine Cl.mk (hH) ?_ | refine Rq.mk ⟨by omega, by rw [List.length_map]; omega⟩ ?_ | refine El.mk (getH h1 rfl) ?_ | refine Cl.pre (by simp only [shcLL_ints, shcLL_byts, shcLL_strs, Adve.shcs, Fetc.shcs, Gran.shcs, Keyy.shcs, Link.shcs, Mani.shcs, Name.shcs, Read.shcs, Rout.shcs, Segm.shcs, TEnt.shcs, Topo.shcs]; rfl) ?_))
          refine Nx.intro r.length (by simp) _ (WkS.weak _ _) ⟨d ++ [x], r, d1.length, by simp [hl], rfl, .inr ⟨d1, r1, q, h1, by simp [stepB, hp, hb, longer, hlt], rfl⟩, ?_⟩
          (repeat' (first | exact rfl | refine consE ?_ ?_ | refine entE ?_ | refine vI ?_ | refine vS ?_ | refine vT ?_ | refine vB ?_))
          all_goals simp
theorem is160 : FI 160 Tryz.f160 := ⟨⟨Tryz.f160, Tryz.func160, rfl, rfl, rfl, rfl⟩, rfl⟩
set_option maxRecDepth 20000 in
set_option maxHeartbeats 16000000 in
theorem i_MPre (l : List Rout) (n : Name) (hz : l.length + sumN Rout.size l ≤ 1048576) (hn : strsSize n.parts ≤ 8388608) : FO 160 [Rl l, A (Name.c false n)] [Rl l, A (Name.c false n)] (NBo (mpre l n)) := by
  refine fok envOk mixed is160 ⟨rfl, rfl, ?_⟩
  have hnl := strs_len hn
  (repeat' ((conv => whnf); first | refine stp ?_ ))
  refine Lp.mk [.sl 0, .bx 3, .sl 3, .bx 4, .sl 4, .sl 6, .sl 9, .sl 10, .sl 11] (fun m σ => ∃ d r i, l = d ++ r ∧ m = r.length ∧ bestAt l (d.foldl (stepB n) none) i ∧ σ = [Sa 0 (Rl l), Bx 3 ((Name.c false n)), Pt 3, Bx 4 ([.sl true .isnil 0 []]), Pt 4, Sa 6 (I i), Sa 9 (Rl l), Sa 10 (I l.length), Sa 11 (I d.length)]) (l.length) _ (WkS.weak _ _) ⟨[], l, -1, rfl, rfl, .inl ⟨rfl, rfl⟩, (by first | rfl | (simp only [zlen, zsum, Nat.zero_mul, Int.add_zero, Int.sub_zero, List.nil_append, markG]; rfl))⟩ ?_
  rintro m τ ⟨d, r, i, hl, rfl, hb, rfl⟩
  have hy : l.length = d.length + r.length := by rw [hl]; simp
  cases r with
  | nil =>
    refine Br.neg (by simp at *; omega) ?_
    simp only [List.append_nil] at hl
    rw [show mpre l n = d.foldl (stepB n) none by rw [mpre, hl]]
    rcases hb with ⟨hb, rfl⟩ | ⟨d1, r1, q, h1, hb, rfl⟩
    · rw [hb]
      (repeat' ((conv => whnf); first | refine stp ?_ ))
      exact Vs.Fin.mk (WkR.of (.nils (.refl _))) (.refl _)
    · rw [hb]
      have hq := rt_len hz (r := q) (by rw [h1]; simp)
      have hi : d1.length < l.length := by rw [h1]; simp
      have f1 : decide ((d1.length : Int) < 0) = false := by simp
      (repeat' ((conv => whnf); first | refine stp ?_ | refine Rq.mk ⟨by omega, by rw [List.length_map]; omega⟩ ?_ | refine El.mk (getH h1 rfl) ?_ | refine Cl.mk (i_copyName q.pref (by omega)) ?_ | refine Cl.pre (by simp only [shcLL_ints, shcLL_byts, shcLL_strs, Adve.shcs, Fetc.shcs, Gran.shcs, Keyy.shcs, Link.shcs, Mani.shcs, Name.shcs, Read.shcs, Rout.shcs, Segm.shcs, TEnt.shcs, Topo.shcs]; rfl) ?_))
      exact Vs.Fin.mk (WkR.refl _) (.refl _)
  | cons x r =>
    have hx := rt_len hz (r := x) (by rw [hl]; simp)
    simp at hy
    refine Br.pos (by simp; omega) ?_
    have hH := i_HasPrefix n x.pref (by omega) (by omega)
    cases hp : hasPre n x.pref with
    | false =>
      rw [hp] at hH
      (repeat' ((conv => whnf); first | refine stp ?_ | refine El.mk (getH hl rfl) ?_ | refine Cl.mk (hH) ?_ | refine Cl.pre (by simp only [shcLL_ints, shcLL_byts, shcLL_strs, Adve.shcs, Fetc.shcs, Gran.shcs, Keyy.shcs, Link.shcs, Mani.shcs, Name.shcs, Read.shcs, Rout.shcs, Segm.shcs, TEnt.shcs, Topo.shcs]; rfl) ?_))
      refine Nx.intro r.length (by simp) _ (WkS.weak _ _) ⟨d ++ [x], r, i, by simp [hl], rfl, by simpa [stepB, hp] using hb, ?_⟩
      (repeat' (first | exact rfl | refine consE ?_ ?_ | refine entE ?_ | refine vI ?_ | refine vS ?_ | refine vT ?_ | refine vB ?_))
      all_goals simp
    | true =>
      rw [hp] at hH
      rcases hb with ⟨hb, rfl⟩ | ⟨d1, r1, q, h1, hb, rfl⟩
      · (repeat' ((conv => whnf); first | refine stp ?_ | refine El.mk (getH hl rfl) ?_ | refine Cl.mk (hH) ?_ | refine Cl.pre (by simp only [shcLL_ints, shcLL_byts, shcLL_strs, Adve.shcs, Fetc.shcs, Gran.shcs, Keyy.shcs, Link.shcs, Mani.shcs, Name.shcs, Read.shcs, Rout.shcs, Segm.shcs, TEnt.shcs, Topo.shcs]; rfl) ?_))
        refine Nx.intro r.length (by simp) _ (WkS.weak _ _) ⟨d ++ [x], r, d.length, by simp [hl], rfl, .inr ⟨d, r, x, hl, by simp [stepB, hp, hb, longer], rfl⟩, ?_⟩
        (repeat' (first | exact rfl | refine consE ?_ ?_ | refine entE ?_ | refine vI ?_ | refine vS ?_ | refine vT ?_ | refine vB ?_))
        all_goals simp
      · have f1 : decide ((d1.length : Int) < 0) = false := by simp
        have hi : d1.length < l.length := by rw [h1]; simp
        by_cases hlt : q.pref.parts.length < x.pref.parts.length
        · have f2 : decide ((x.pref.parts.length : Int) > (q.pref.parts.length : Int)) = true := by simp; omega
          (repeat' ((conv => whnf); first | refine stp ?_ | refine El.mk (getH hl rfl) ?_ | refine Cl.mk (hH) ?_ | refine Rq.mk ⟨by omega, by rw [List.length_map]; omega⟩ ?_ | refine El.mk (getH h1 rfl) ?_ | refine Cl.pre (by simp only [shcLL_ints, shcLL_byts, shcLL_strs, Adve.shcs, Fetc.shcs, Gran.shcs, Keyy.shcs, Link.shcs, Mani.shcs, Name.shcs, Read.shcs, Rout.shcs, Segm.shcs, TEnt.shcs, Topo.shcs]; rfl) ?_))
          refine Nx.intro r.length (by simp) _ (WkS.weak _ _) ⟨d ++ [x], r, d.length, by simp [hl], rfl, .inr ⟨d, r, x, hl, by simp [stepB, hp, hb, longer, hlt], rfl⟩, ?_⟩
          (repeat' (first | exact rfl | refine consE ?_ ?_ | refine entE ?_ | refine vI ?_ | refine vS ?_ | refine vT ?_ | refine vB ?_))
          all_goals simp
        · have f2 : decide ((x.pref.parts.length : Int) > (q.pref.parts.length : Int)) = false := by simp; omega
          (repeat' ((conv => whnf); first | refine stp ?_ | refine El.mk (getH hl rfl) ?_ | refine Cl.mk (hH) ?_ | refine Rq.mk ⟨by omega, by rw [List.length_map]; omega⟩ ?_ | refine El.mk (getH h1 rfl) ?_ | refine Cl.pre (by simp only [shcLL_ints, shcLL_byts, shcLL_strs, Adve.shcs, Fetc.shcs, Gran.shcs, Keyy.shcs, Link.shcs, Mani.shcs, Name.shcs, Read.shcs, Rout.shcs, Segm.shcs, TEnt.shcs, Topo.shcs]; rfl) ?_))
          refine Nx.intro r.length (by simp) _ (WkS.weak _ _) ⟨d ++ [x], r, d1.length, by simp [hl], rfl, .inr ⟨d1, r1, q, h1, by simp [stepB, hp, hb, longer, hlt], rfl⟩, ?_⟩
          (repeat' (first | exact rfl | refine consE ?_ ?_ | refine entE ?_ | refine vI ?_ | refine vS ?_ | refine vT ?_ | refine vB ?_))
          all_goals simp
theorem is156 : FI 156 Tryz.f156 := ⟨⟨Tryz.f156, Tryz.func156, rfl, rfl, rfl, rfl⟩, rfl⟩
set_option maxRecDepth 20000 in
set_option maxHeartbeats 16000000 in
theorem s_l14Put (l : List Rout) (r : Rout) (hl : l.length ≤ 1048576) : FO 156 [Rl l, A (Rout.c false r)] [Rl l, A (Rout.c false r)] (O (sl true 3 ((putR l r).map (Rout.c false)))) := by
  refine fok envOk mixed is156 ⟨rfl, rfl, ?_⟩
  refine Nm.mk lenC ?_
  refine Lp.mk [.sl 0, .bx 3, .sl 3, .sl 5] (fun m σ => ∃ d e, l = d ++ e ∧ m = d.length ∧ (∀ x ∈ e, gtR x r = true) ∧ σ = [Sa 0 (Rl l), Bx 3 ((Rout.c false r)), Pt 3, Sa 5 (I d.length)]) (l.length) _ (WkS.weak _ _) ⟨l, [], by simp, rfl, by simp, (by first | rfl | (simp only [zlen, zsum, Nat.zero_mul, Int.add_zero, Int.sub_zero, List.nil_append, markG]; rfl))⟩ ?_
  rintro m τ ⟨d, e, hde, rfl, he, rfl⟩
  have hy : l.length = d.length + e.length := by rw [hde]; simp
  have hfin : (∀ d' x, d = d' ++ [x] → gtR x r = false) → putR l r = d ++ r :: e := fun h => by rw [hde]; exact putR_at he h
  have ht : ((l.map (Rout.c false)).take ((d.length : Nat) : Int).toNat).drop (0 : Int).toNat = d.map (Rout.c false) := by rw [hde]; simp
  have hd2 : ((l.map (Rout.c false)).take l.length).drop ((d.length : Nat) : Int).toNat = e.map (Rout.c false) := by rw [List.take_of_length_le (by simp), hde]; simp
  rcases lastD d with rfl | ⟨d', x, rfl⟩
  · have f0 : decide ((([] : List Rout).length : Int) > 0) = false := by simp
    rw [hfin (by intro d' x h; simp at h)]
    (repeat' ((conv => whnf); first | refine stp ?_ | refine Rq.mk (by simp at *; omega) ?_ | refine Cl.pre (by simp only [shcLL_ints, shcLL_byts, shcLL_strs, Adve.shcs, Fetc.shcs, Gran.shcs, Keyy.shcs, Link.shcs, Mani.shcs, Name.shcs, Read.shcs, Rout.shcs, Segm.shcs, TEnt.shcs, Topo.shcs]; rfl) ?_))
    refine Vs.Fin.mk (WkR.of (.sl1 ?_ .nil)) (.refl _)
    simp only [List.length_nil] at ht hd2 ⊢
    obtain rfl : l = e := by simpa using hde
    simp
    rw [List.take_of_length_le (by simp)]
  · skip
    have f0 : decide (((d' ++ [x]).length : Int) > 0) = true := by simp
    have g1 : (l.map (Rout.c false)).take (d'.length + 1) = (d' ++ [x]).map (Rout.c false) := by simpa using ht
    have g2 : ((l.map (Rout.c false)).take l.length).drop (d'.length + 1) = e.map (Rout.c false) := by simpa using hd2
    have e1 : (((d' ++ [x]).length : Nat) : Int) - 1 = (d'.length : Int) := by simp
    have hl2 : l = d' ++ x :: e := by rw [hde]; simp
    have hi : d'.length < l.length := by rw [hl2]; simp
    have hstop : gtR x r = false → putR l r = (d' ++ [x]) ++ r :: e := fun h => hfin (fun d2 y hy => by
      have := List.append_inj' hy rfl
      simp at this
      rw [← this.2]; exact h)
    by_cases h1 : x.cost > r.cost
    · have f1 : decide (x.cost > r.cost) = true := by simpa using h1
      (repeat' ((conv => whnf); first | refine stp ?_ | refine Rq.mk ⟨by omega, by rw [List.length_map]; omega⟩ ?_ | refine El.mk (getH hl2 e1) ?_ | refine Cl.pre (by simp only [shcLL_ints, shcLL_byts, shcLL_strs, Adve.shcs, Fetc.shcs, Gran.shcs, Keyy.shcs, Link.shcs, Mani.shcs, Name.shcs, Read.shcs, Rout.shcs, Segm.shcs, TEnt.shcs, Topo.shcs]; rfl) ?_))
      refine Nx.intro d'.length (by simp) _ (WkS.weak _ _) ⟨d', x :: e, hl2, rfl, ?_, ?_⟩
      · intro y hy
        rcases List.mem_cons.1 hy with rfl | hy
        · simp [gtR, h1]
        · exact he y hy
      (repeat' (first | exact rfl | refine consE ?_ ?_ | refine entE ?_ | refine vI ?_ | refine vS ?_ | refine vT ?_ | refine vB ?_))
      all_goals (simp)
    · have f1 : decide (x.cost > r.cost) = false := by simpa using h1
      by_cases h2 : x.cost = r.cost
      · have f2 : (x.cost == r.cost) = true := by simpa using h2
        by_cases h3 : x.face > r.face
        · have f3 : decide (x.face > r.face) = true := by simpa using h3
          (repeat' ((conv => whnf); first | refine stp ?_ | refine Rq.mk ⟨by omega, by rw [List.length_map]; omega⟩ ?_ | refine El.mk (getH hl2 e1) ?_ | refine Cl.pre (by simp only [shcLL_ints, shcLL_byts, shcLL_strs, Adve.shcs, Fetc.shcs, Gran.shcs, Keyy.shcs, Link.shcs, Mani.shcs, Name.shcs, Read.shcs, Rout.shcs, Segm.shcs, TEnt.shcs, Topo.shcs]; rfl) ?_))
          refine Nx.intro d'.length (by simp) _ (WkS.weak _ _) ⟨d', x :: e, hl2, rfl, ?_, ?_⟩
          · intro y hy
            rcases List.mem_cons.1 hy with rfl | hy
            · simp [gtR, h2, h3]
            · exact he y hy
          (repeat' (first | exact rfl | refine consE ?_ ?_ | refine entE ?_ | refine vI ?_ | refine vS ?_ | refine vT ?_ | refine vB ?_))
          all_goals (simp)
        · have f3 : decide (x.face > r.face) = false := by simpa using h3
          rw [hstop (by simp only [gtR, f1, f2, f3]; rfl)]
          (repeat' ((conv => whnf); first | refine stp ?_ | refine El.mk (getH hl2 e1) ?_ | refine Rq.mk ⟨by omega, by rw [List.length_map]; omega⟩ ?_ | refine Rq.mk (by simp at *; omega) ?_ | refine Cl.pre (by simp only [shcLL_ints, shcLL_byts, shcLL_strs, Adve.shcs, Fetc.shcs, Gran.shcs, Keyy.shcs, Link.shcs, Mani.shcs, Name.shcs, Read.shcs, Rout.shcs, Segm.shcs, TEnt.shcs, Topo.shcs]; rfl) ?_))
          refine Vs.Fin.mk (WkR.of (.sl1 ?_ .nil)) (.refl _)
          simp [g1, g2]
      · have f2 : (x.cost == r.cost) = false := by simpa using h2
        rw [hstop (by simp only [gtR, f1, f2]; rfl)]
        (repeat' ((conv => whnf); first | refine stp ?_ | refine El.mk (getH hl2 e1) ?_ | refine Rq.mk ⟨by omega, by rw [List.length_map]; omega⟩ ?_ | refine Rq.mk (by simp at *; omega) ?_ | refine Cl.pre (by simp only [shcLL_ints, shcLL_byts, shcLL_strs, Adve.shcs, Fetc.shcs, Gran.shcs, Keyy.shcs, Link.shcs, Mani.shcs, Name.shcs, Read.shcs, Rout.shcs, Segm.shcs, TEnt.shcs, Topo.shcs]; rfl) ?_))
        refine Vs.Fin.mk (WkR.of (.sl1 ?_ .nil)) (.refl _)
        simp [g1, g2]
end Go.Proofs.YtigkmijoefibiaaGreat
