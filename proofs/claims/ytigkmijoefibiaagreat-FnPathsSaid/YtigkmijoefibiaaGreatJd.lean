/- Contracts of functions of the program: no statement of the seat is proved here. Each under the conditions that stand in it. -/
import Derived.Test.YtigkmijoefibiaaGreatM8
import Derived.Test.YtigkmijoefibiaaGreatJc
import Derived.Test.YtigkmijoefibiaaGreatJm
set_option linter.all false
namespace Go.Proofs.YtigkmijoefibiaaGreat
open Go.Vs Go.Proofs
abbrev NBf (n : Name) (b : Bool) : Arg := (.tup [(true, 1), (false, 1)], [cSs false n.parts, cB b])
theorem sh_resJ {f : Nat} {args outs : List Arg} {s : Shape} {vs : List AV} (h : FO f args outs (s, vs)) : FO f args outs (s, shcL vs) := FOk.wk h (.refl _) (.refl _) ⟨rfl, .inr (WkL.refl _)⟩
theorem sh_NB {f : Nat} {args outs : List Arg} {n : Name} {b : Bool} (h : FO f args outs (NBn n b)) : FO f args outs (NBf n b) := by
  have := sh_resJ h
  simp only [shcL, Vs.shc, shcLL_strs] at this
  exact this
theorem hasP_size (q : Rout) (l : List Rout) : (hasP q l).length ≤ l.length := List.length_filter_le _ _
theorem fold_mem {n : Name} {q : Rout} : ∀ (l : List Rout) (b : Option Rout), l.foldl (stepB n) b = some q → b = some q ∨ q ∈ l
  | [], b, h => .inl h
  | x :: l, b, h => by
    rcases fold_mem l _ h with h1 | h1
    · unfold stepB at h1
      split at h1
      · cases h1; exact .inr (by simp)
      · exact .inl h1
    · exact .inr (by simp [h1])
theorem mpre_mem {l : List Rout} {n : Name} {q : Rout} (h : mpre l n = some q) : q ∈ l := by
  rcases fold_mem l none h with h | h
  · cases h
  · exact h
theorem is73 : FI 73 Tryz.f73 := ⟨⟨Tryz.f73, Tryz.func73, rfl, rfl, rfl, rfl⟩, rfl⟩
set_option maxRecDepth 20000 in
set_option maxHeartbeats 16000000 in
theorem s_NextHops (l : List Rout) (n : Name) (hz : l.length + sumN Rout.size l ≤ 1048576) (hn : strsSize n.parts ≤ 8388608) : FO 73 [Rl l, A (Name.c false n)] [Rl l, A (Name.c false n)] (Is true (nhop l n)) := by
  refine fok envOk mixed is73 ⟨rfl, rfl, ?_⟩
  have hM := s_MPre l n (by omega) hn
  cases hm : mpre l n with
  | none =>
    rw [hm] at hM
    replace hM := sh_NB hM
    rw [show nhop l n = [] by simp [nhop, hm]]
    (repeat' ((conv => whnf); first | refine stp ?_ | refine Cl.mk (hM) ?_ | refine Cl.pre (by simp only [shcLL_ints, shcLL_byts, shcLL_strs, Adve.shcs, Fetc.shcs, Gran.shcs, Keyy.shcs, Link.shcs, Mani.shcs, Name.shcs, Read.shcs, Rout.shcs, Segm.shcs, TEnt.shcs, Topo.shcs]; rfl) ?_))
    refine Lp.mk [.sl 0, .bx 5, .sl 5, .sl 6, .sl 7, .sl 8] (fun m σ => ∃ u : Unit, m = 0 ∧ σ = [Sa 0 (Rl l), Bx 5 ([cSs false []]), Pt 5, Sa 6 (B false), Sa 7 (O (.sl true .non 3 (([] : List Rout).map (Rout.c false)))), Sa 8 (I 0)]) (0) _ (WkS.weak _ _) ⟨(), rfl, (by first | rfl | (simp only [zlen, zsum, Nat.zero_mul, Int.add_zero, Int.sub_zero, List.nil_append, markG]; rfl))⟩ ?_
    rintro m τ ⟨-, rfl, rfl⟩
    refine Nm.mk lenC ?_
    (repeat' ((conv => whnf); first | refine stp ?_ | refine Br.mk (fun _ => ?_) (fun _ => ?_) ))
    all_goals
      refine Lp.mk [.sl 7, .sl 9, .sl 10] (fun m σ => ∃ u : Unit, m = 0 ∧ σ = [Sa 7 (O (.sl true .non 3 (([] : List Rout).map (Rout.c false)))), Sa 9 (O (.sl true .non 1 [])), Sa 10 (I 0)]) (0) _ (WkS.weak _ _) ⟨(), rfl, (by first | rfl | (simp only [zlen, zsum, Nat.zero_mul, Int.add_zero, Int.sub_zero, List.nil_append, markG]; rfl))⟩ ?_
      rintro m τ ⟨-, rfl, rfl⟩
      refine Nm.mk lenC ?_
      refine Br.neg (by simp) ?_
      (repeat' ((conv => whnf); first | refine stp ?_ ))
      exact Vs.Fin.mk (WkR.of (.top .nil)) (.refl _)
  | some q =>
    rw [hm] at hM
    have hq0 := rt_len hz (mpre_mem hm)
    replace hM := sh_NB hM
    rw [show nhop l n = (srt (hasP q l)).map (·.face) by simp [nhop, hm]]
    (repeat' ((conv => whnf); first | refine stp ?_ | refine Cl.mk (hM) ?_ | refine Cl.pre (by simp only [shcLL_ints, shcLL_byts, shcLL_strs, Adve.shcs, Fetc.shcs, Gran.shcs, Keyy.shcs, Link.shcs, Mani.shcs, Name.shcs, Read.shcs, Rout.shcs, Segm.shcs, TEnt.shcs, Topo.shcs]; rfl) ?_))
    refine Lp.mk [.sl 0, .bx 5, .sl 5, .sl 6, .sl 7, .sl 8] (fun m σ => ∃ d r, l = d ++ r ∧ m = r.length ∧ σ = [Sa 0 (Rl l), Bx 5 (Name.c false q.pref), Pt 5, Sa 6 (B true), Sa 7 (O (.sl true .unk 3 ((srt (hasP q d)).map (Rout.c false)))), Sa 8 (I d.length)]) (l.length) _ (.cons (.refl _) (.cons (.refl _) (.cons (.refl _) (.cons (.refl _) (.cons (.top .nil) (.cons (.refl _) .nil)))))) ⟨[], l, rfl, rfl, (by first | rfl | (simp only [zlen, zsum, Nat.zero_mul, Int.add_zero, Int.sub_zero, List.nil_append, markG]; rfl))⟩ ?_
    rintro m τ ⟨d, r, hd, rfl, rfl⟩
    have hy : l.length = d.length + r.length := by rw [hd]; simp
    refine Nm.mk lenC ?_
    cases r with
    | nil =>
      simp only [List.append_nil] at hd
      subst hd
      have f0 : decide ((l.length : Int) < (l.length : Int)) = false := by simp
      (repeat' ((conv => whnf); first | refine stp ?_ ))
      have hs : (srt (hasP q l)).length ≤ 1048576 := by rw [srt_len]; have := hasP_size q l; omega
      generalize srt (hasP q l) = s at hs
      refine Lp.mk [.sl 7, .sl 9, .sl 10] (fun m σ => ∃ e f, s = e ++ f ∧ m = f.length ∧ σ = [Sa 7 (O (.sl true .unk 3 (s.map (Rout.c false)))), Sa 9 (O (.sl true .non 1 (ints (e.map (·.face))))), Sa 10 (I e.length)]) (s.length) _ (WkS.weak _ _) ⟨[], s, rfl, rfl, (by first | rfl | (simp only [zlen, zsum, Nat.zero_mul, Int.add_zero, Int.sub_zero, List.nil_append, markG]; rfl))⟩ ?_
      rintro m τ ⟨e, f, he, rfl, rfl⟩
      have hy2 : s.length = e.length + f.length := by rw [he]; simp
      refine Nm.mk lenC ?_
      cases f with
      | nil =>
        refine Br.neg (by simp at *; omega) ?_
        (repeat' ((conv => whnf); first | refine stp ?_ ))
        simp only [List.append_nil] at he
        rw [he]
        exact Vs.Fin.mk (WkR.of (.top .nil)) (.refl _)
      | cons x f =>
        simp at hy2
        refine Br.pos (by simp; omega) ?_
        (repeat' ((conv => whnf); first | refine stp ?_ | refine El.mk (getH he rfl) ?_ | refine Rq.mk (by simp; omega) ?_ | refine Cl.pre (by simp only [shcLL_ints, shcLL_byts, shcLL_strs, Adve.shcs, Fetc.shcs, Gran.shcs, Keyy.shcs, Link.shcs, Mani.shcs, Name.shcs, Read.shcs, Rout.shcs, Segm.shcs, TEnt.shcs, Topo.shcs]; rfl) ?_))
        refine Nx.intro f.length (by simp) _ (WkS.weak _ _) ⟨e ++ [x], f, by simp [he], rfl, ?_⟩
        (repeat' (first | exact rfl | refine consE ?_ ?_ | refine entE ?_ | refine vI ?_ | refine vS ?_ | refine vT ?_ | refine vB ?_))
        all_goals simp
    | cons x r =>
      have hx := rt_len hz (r := x) (by rw [hd]; simp)
      simp at hy
      have f0 : decide ((d.length : Int) < (l.length : Int)) = true := by simp; omega
      have hE := s_EqualNames x.pref q.pref (by omega) (by omega)
      by_cases hq : x.pref = q.pref
      · rw [decide_eq_true hq] at hE
        have hP := s_l14Put (srt (hasP q d)) x (by rw [srt_len]; have := hasP_size q d; omega)
        (repeat' ((conv => whnf); first | refine stp ?_ | refine El.mk (getH hd rfl) ?_ | refine Cl.mk (hE) ?_ | refine Cl.eq hP (congrArg (fun z => [O (.sl false .unk 3 z), A (Rout.c false x)]) (shcLL_R _)) ?_ | refine Cl.pre (by simp only [shcLL_ints, shcLL_byts, shcLL_strs, Adve.shcs, Fetc.shcs, Gran.shcs, Keyy.shcs, Link.shcs, Mani.shcs, Name.shcs, Read.shcs, Rout.shcs, Segm.shcs, TEnt.shcs, Topo.shcs]; rfl) ?_))
        refine Nx.intro r.length (by simp) _ (WkS.weak _ _) ⟨d ++ [x], r, by simp [hd], rfl, ?_⟩
        rw [hasP_snoc, if_pos hq, srt_snoc]
        (repeat' (first | exact rfl | refine consE ?_ ?_ | refine entE ?_ | refine vI ?_ | refine vS ?_ | refine vT ?_ | refine vB ?_))
        all_goals simp
      · rw [decide_eq_false hq] at hE
        (repeat' ((conv => whnf); first | refine stp ?_ | refine El.mk (getH hd rfl) ?_ | refine Cl.mk (hE) ?_ | refine Cl.pre (by simp only [shcLL_ints, shcLL_byts, shcLL_strs, Adve.shcs, Fetc.shcs, Gran.shcs, Keyy.shcs, Link.shcs, Mani.shcs, Name.shcs, Read.shcs, Rout.shcs, Segm.shcs, TEnt.shcs, Topo.shcs]; rfl) ?_))
        refine Nx.intro r.length (by simp) _ (WkS.weak _ _) ⟨d ++ [x], r, by simp [hd], rfl, ?_⟩
        rw [hasP_snoc, if_neg hq, List.append_nil]
        (repeat' (first | exact rfl | refine consE ?_ ?_ | refine entE ?_ | refine vI ?_ | refine vS ?_ | refine vT ?_ | refine vB ?_))
        all_goals simp
theorem is163 : FI 163 Tryz.f163 := ⟨⟨Tryz.f163, Tryz.func163, rfl, rfl, rfl, rfl⟩, rfl⟩
set_option maxRecDepth 20000 in
set_option maxHeartbeats 16000000 in
theorem i_NextHops_1 (r : Rout) (p : Name) (hr : r.pref.parts.length ≤ 1099511627776) : FO 163 [A (Rout.c false r), O (.cp (Name.c false p) 0)] [A (Rout.c false r), O (.cp (Name.c false p) 0)] (B (!decide (r.pref = p))) := by
  refine fok envOk mixed is163 ⟨rfl, rfl, ?_⟩
  (repeat' ((conv => whnf); first | refine stp ?_ | refine Cl.mk (i_EqualNames r.pref p hr) ?_ | refine Cl.pre (by simp only [shcLL_ints, shcLL_byts, shcLL_strs, Adve.shcs, Fetc.shcs, Gran.shcs, Keyy.shcs, Link.shcs, Mani.shcs, Name.shcs, Read.shcs, Rout.shcs, Segm.shcs, TEnt.shcs, Topo.shcs]; rfl) ?_))
  exact Vs.Fin.mk (WkR.refl _) (.refl _)
theorem is165 : FI 165 Tryz.f165 := ⟨⟨Tryz.f165, Tryz.func165, rfl, rfl, rfl, rfl⟩, rfl⟩
set_option maxRecDepth 20000 in
set_option maxHeartbeats 16000000 in
theorem i_NextHops_2 (a b : Rout) : FO 165 [A (Rout.c false a), A (Rout.c false b)] [A (Rout.c false a), A (Rout.c false b)] (I (cmpR a b)) := by
  refine fok envOk mixed is165 ⟨rfl, rfl, ?_⟩
  (repeat' ((conv => whnf); first | refine stp ?_ | refine Cl.mk (Compare_int _ _) ?_ | refine Cl.mk (Or_int [cmpI a.cost b.cost, cmpI a.face b.face] (by simp)) ?_ | refine Cl.pre (by simp only [shcLL_ints, shcLL_byts, shcLL_strs, Adve.shcs, Fetc.shcs, Gran.shcs, Keyy.shcs, Link.shcs, Mani.shcs, Name.shcs, Read.shcs, Rout.shcs, Segm.shcs, TEnt.shcs, Topo.shcs]; rfl) ?_))
  exact Vs.Fin.mk (WkR.refl _) (.refl _)
set_option maxRecDepth 20000 in
set_option maxHeartbeats 16000000 in
theorem IndexFunc_RoutN {l : List Rout} (hl : l.length ≤ 1099511627776) {g : Nat} {ca : List AV} {p : Rout → Bool} (hg : ∀ x ∈ l, FO g [A (Rout.c false x), O (.cp ca 0)] [A (Rout.c false x), O (.cp ca 0)] (B (p x))) : FO 177 [O (sl false 3 (l.map (Rout.c false))), O (.clo g [.cp ca 0])] [O (sl false 3 (l.map (Rout.c false))), O (.clo g [.cp ca 0])] (I (findI p l 0)) := by
  refine fok envOk mixed is177 ⟨rfl, rfl, ?_⟩
  refine Nm.mk lenC ?_
  refine Lp.mk [.sl 0, .sl 1, .sl 7, .sl 8] (fun m σ => ∃ d r, l = d ++ r ∧ m = r.length ∧ d.any p = false ∧ σ = [Sa 0 (O (sl false 3 (l.map (Rout.c false)))), Sa 1 (O (.clo g [.cp ca 0])), Sa 7 (I l.length), Sa 8 (I d.length)]) (l.length) _ (WkS.weak _ _) ⟨[], l, rfl, rfl, rfl, (by first | rfl | (simp only [zlen, zsum, Nat.zero_mul, Int.add_zero, Int.sub_zero, List.nil_append, markG]; rfl))⟩ ?_
  rintro m τ ⟨d, r, rfl, rfl, hd, rfl⟩
  cases r with
  | nil =>
    refine Br.neg (by simp) ?_
    (repeat' ((conv => whnf); first | refine stp ?_ | refine Br.mk (fun _ => ?_) (fun _ => ?_) ))
    refine Vs.Fin.mk (WkR.eq ?_) (.refl _)
    rw [findI_none (by simpa using hd)]
  | cons x r =>
    refine Br.pos (by simp; omega) ?_
    refine Rq.mk ⟨by omega, by simp; omega⟩ ?_
    refine El.mk (getA rfl) ?_
    refine Cl.mk (hg x (by simp)) ?_
    (repeat' ((conv => whnf); first | refine stp ?_ ))
    refine Br.mk (fun h => ?_) (fun h => ?_)
    · (repeat' ((conv => whnf); first | refine stp ?_ | refine Br.mk (fun _ => ?_) (fun _ => ?_) ))
      refine Vs.Fin.mk (WkR.eq ?_) (.refl _)
      rw [findI_at hd h]; simp
    · refine Nm.mk (wrapI (by omega) (by simp at hl; omega)) ?_
      refine Nx.intro r.length (by simp) _ (WkS.weak _ _) ⟨d ++ [x], r, by simp, rfl, by simp_all, ?_⟩
      rw [len1]; rfl
theorem hasP_eq (q : Rout) (l : List Rout) : (l.filter fun x => !!decide (x.pref = q.pref)) = hasP q l := by simp [hasP]
abbrev Rv (t s : Nat) : Rs × RV := (.sl t, ((0, 0), some (.one, [.ref (.sl s) 0 (0, 0) []])))
theorem is79 : FI 79 Tryz.f79 := ⟨⟨Tryz.f79, Tryz.func79, rfl, rfl, rfl, rfl⟩, rfl⟩
set_option maxRecDepth 20000 in
set_option maxHeartbeats 16000000 in
theorem i_NextHops (l : List Rout) (n : Name) (hz : l.length + sumN Rout.size l ≤ 1048576) (hn : strsSize n.parts ≤ 8388608) (hs : ∀ q, mpre l n = some q → (hasP q l).length ≤ 19) : FO 79 [Rl l, A (Name.c false n)] [Rl l, A (Name.c false n)] (Is true (nhop l n)) := by
  refine fok envOk mixed is79 ⟨rfl, rfl, ?_⟩
  have hM := i_MPre l n (by omega) hn
  cases hm : mpre l n with
  | none =>
    rw [hm] at hM
    replace hM := sh_NB hM
    rw [show nhop l n = [] by simp [nhop, hm]]
    (repeat' ((conv => whnf); first | refine stp ?_ | refine Cl.mk (hM) ?_ | refine Cl.pre (by simp only [shcLL_ints, shcLL_byts, shcLL_strs, Adve.shcs, Fetc.shcs, Gran.shcs, Keyy.shcs, Link.shcs, Mani.shcs, Name.shcs, Read.shcs, Rout.shcs, Segm.shcs, TEnt.shcs, Topo.shcs]; rfl) ?_))
    exact Vs.Fin.mk (WkR.of (.nils .nil)) (.refl _)
  | some q =>
    rw [hm] at hM
    have hq0 := rt_len hz (mpre_mem hm)
    replace hM := sh_NB hM
    rw [show nhop l n = (srt (hasP q l)).map (·.face) by simp [nhop, hm]]
    have hC := i_copyRoutes l hz
    have hcl : ∀ x ∈ l, FO 163 [A (Rout.c false x), O (.cp (Name.c false q.pref) 0)] [A (Rout.c false x), O (.cp (Name.c false q.pref) 0)] (B (!decide (x.pref = q.pref))) := fun x hx => i_NextHops_1 x q.pref (by have := rt_len hz hx; omega)
    have hI := IndexFunc_RoutN (by omega) hcl
    have hD := DeleteFunc_Rout (p := fun x => !decide (x.pref = q.pref)) (by omega) (i_NextHops_1 ⟨⟨[]⟩, 0, 0⟩ q.pref (by simp)).1 hcl hI
    rw [hasP_eq] at hD
    have hl19 := hs q hm
    have hS0 := sortR (hasP q l) hl19 165 i_NextHops_2
    have hS : FO 164 [O (sl true 3 ((hasP q l).map (Rout.c true))), O (.clo 165 [])] _ _ := FOk.half (by rw [Rout.shcs]; exact hS0)
    (repeat' ((conv => whnf); first | refine stp ?_ | refine Cl.mk (hM) ?_ | refine Cl.mk (hC) ?_ | refine Cl.mk (hD) ?_ | refine Rq.mk (by simp [outsOk, dOwnL, dOwn, anyOwns, AV.owns, capArgs]) ?_ | refine Cl.mk (hS) ?_ | refine Cl.pre (by simp only [shcLL_ints, shcLL_byts, shcLL_strs, Adve.shcs, Fetc.shcs, Gran.shcs, Keyy.shcs, Link.shcs, Mani.shcs, Name.shcs, Read.shcs, Rout.shcs, Segm.shcs, TEnt.shcs, Topo.shcs]; rfl) ?_))
    have hs2 : (srt (hasP q l)).length ≤ 19 := by rw [srt_len]; exact hl19
    generalize srt (hasP q l) = s at hs2
    refine Lp.mk [.sl 7, .sl 8, .sl 26, .sl 27, .sl 28] (fun m σ => ∃ e f, (s = e ++ f ∧ m = f.length) ∧ σ = [Sa 7 (O (.sl true .unk 3 (s.map (Rout.c false)))), Sa 8 (O (.sl true .non 1 (ints (e.map (·.face))))), Rv 26 7, Sa 27 (I s.length), Sa 28 (I e.length)]) (s.length) _ (WkS.weak _ _) ⟨[], s, ⟨rfl, rfl⟩, rfl⟩ ?_
    rintro m τ ⟨e, f, ⟨he, rfl⟩, rfl⟩
    have hy : s.length = e.length + f.length := by rw [he]; simp
    cases f with
    | nil =>
      refine Br.neg (by simp at *; omega) ?_
      (repeat' ((conv => whnf); first | refine stp ?_ ))
      simp only [List.append_nil] at he
      rw [he]
      exact Vs.Fin.mk (WkR.of (.top .nil)) (.refl _)
    | cons x f =>
      simp at hy
      refine Br.pos (by simp; omega) ?_
      (repeat' ((conv => whnf); first | refine stp ?_ | refine El.mk (getH he rfl) ?_ | refine Rq.mk (by simp; omega) ?_ | refine Cl.pre (by simp only [shcLL_ints, shcLL_byts, shcLL_strs, Adve.shcs, Fetc.shcs, Gran.shcs, Keyy.shcs, Link.shcs, Mani.shcs, Name.shcs, Read.shcs, Rout.shcs, Segm.shcs, TEnt.shcs, Topo.shcs]; rfl) ?_))
      refine Nx.intro f.length (by simp) _ (WkS.weak _ _) ⟨e ++ [x], f, ⟨by simp [he], rfl⟩, ?_⟩
      (repeat' (first | exact rfl | refine consE ?_ ?_ | refine entE ?_ | refine vI ?_ | refine vS ?_ | refine vT ?_ | refine vB ?_))
      all_goals simp
end Go.Proofs.YtigkmijoefibiaaGreat
