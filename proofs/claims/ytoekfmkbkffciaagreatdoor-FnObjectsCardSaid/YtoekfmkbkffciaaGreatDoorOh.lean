/- Contracts of functions of the program: no statement of the seat is proved here. Each under the conditions that stand in it. -/
import Derived.Test.YtoekfmkbkffciaaGreatDoorM14
set_option linter.all false
namespace Go.Proofs.YtoekfmkbkffciaaGreatDoor
open Go.Vs Go.Proofs
def mt : List ByteArray → List ByteArray → List Bnd → Option (List Bnd)
  | [], [], o => some o
  | [], _ :: _, _ => none
  | p :: r, s, o => if p = sSs then some o else match s with
    | [] => none
    | v :: s => if p = sSt then mt r s o else if isVar p = false then (if p = v then mt r s o else none) else match o.find? (fun b => decide (b.lt = p)) with
      | none => mt r s (o ++ [⟨p, v⟩])
      | some b => if b.vl = v then mt r s o else none
theorem mt_ss {x : ByteArray} (r s : List ByteArray) (o : List Bnd) (h : x = sSs) : mt (x :: r) s o = some o := by rw [mt.eq_def]; simp [h]
theorem mt_nil {x : ByteArray} (r : List ByteArray) (o : List Bnd) (h : ¬ x = sSs) : mt (x :: r) [] o = none := by rw [mt.eq_def]; simp [h]
theorem mt_st {x v : ByteArray} (r s : List ByteArray) (o : List Bnd) (h : ¬ x = sSs) (h2 : x = sSt) : mt (x :: r) (v :: s) o = mt r s o := by
  conv => lhs; rw [mt.eq_def]
  simp only []; rw [if_neg h, if_pos h2]
theorem mt_pl {x v : ByteArray} (r s : List ByteArray) (o : List Bnd) (h : ¬ x = sSs) (h2 : ¬ x = sSt) (h3 : isVar x = false) : mt (x :: r) (v :: s) o = if x = v then mt r s o else none := by
  conv => lhs; rw [mt.eq_def]
  simp only []; rw [if_neg h, if_neg h2, if_pos h3]
theorem mt_new {x v : ByteArray} (r s : List ByteArray) (o : List Bnd) (h : ¬ x = sSs) (h2 : ¬ x = sSt) (h3 : isVar x = true) (h4 : o.find? (fun b => decide (b.lt = x)) = none) : mt (x :: r) (v :: s) o = mt r s (o ++ [⟨x, v⟩]) := by
  conv => lhs; rw [mt.eq_def]
  simp only []; rw [if_neg h, if_neg h2, if_neg (by rw [h3]; simp), h4]
theorem mt_old {x v : ByteArray} {b : Bnd} (r s : List ByteArray) (o : List Bnd) (h : ¬ x = sSs) (h2 : ¬ x = sSt) (h3 : isVar x = true) (h4 : o.find? (fun b => decide (b.lt = x)) = some b) : mt (x :: r) (v :: s) o = if b.vl = v then mt r s o else none := by
  conv => lhs; rw [mt.eq_def]
  simp only []; rw [if_neg h, if_neg h2, if_neg (by rw [h3]; simp), h4]
def mtR (l : List Bnd) : Option (List Bnd) → List Bnd × Bool
  | some o => (o, true)
  | none => (l, false)
def matchR (p : List ByteArray) (n : Name) (l : List Bnd) : List Bnd × Bool := if (vPat p && vName n) = true then mtR l (mt p n.parts l) else (l, false)
abbrev LBb (r : List Bnd × Bool) : Arg := (.tup [(false, 1), (false, 1)], [sl true 2 (r.1.map (Bnd.c false)), cB r.2])
theorem is141 : FI 141 Tryz.f141 := ⟨⟨Tryz.f141, Tryz.func141, rfl, rfl, rfl, rfl⟩, rfl⟩
set_option maxRecDepth 20000 in
set_option maxHeartbeats 16000000 in
theorem i_Match_1 (b : Bnd) (s : ByteArray) : FO 141 [A (Bnd.c false b), O (.cp [cS s] 0)] [A (Bnd.c false b), O (.cp [cS s] 0)] (B (decide (b.lt = s))) := by
  refine fok envOk mixed is141 ⟨rfl, rfl, ?_⟩
  (repeat' ((conv => whnf); first | refine stp ?_ ))
  refine Vs.Fin.mk (WkR.eq ?_) (.refl _)
  rw [← sE]
theorem is130 : FI 130 Tryz.f130 := ⟨⟨Tryz.f130, Tryz.func130, rfl, rfl, rfl, rfl⟩, rfl⟩
set_option maxRecDepth 20000 in
set_option maxHeartbeats 16000000 in
theorem i_Match (p : List ByteArray) (n : Name) (l : List Bnd) (hp : strsSize p ≤ 1048576) (hn : strsSize n.parts ≤ 1048576) (hl : l.length ≤ 1000) : FO 130 [A [cSs false p], A (Name.c false n), O (sl false 2 (l.map (Bnd.c false)))] [A [cSs false p], A (Name.c false n), O (sl false 2 (l.map (Bnd.c false)))] (LBb (matchR p n l)) := by
  refine fok envOk mixed is130 ⟨rfl, rfl, ?_⟩
  have hpl := strs_len hp
  have hnl := strs_len hn
  have hV := i_ValidPattern p (by omega)
  have hW := i_ValidName n (by omega)
  have hC := Clone_Bnd l (by omega)
  cases hv : vPat p with
  | false =>
    rw [hv] at hV
    rw [show matchR p n l = (l, false) by simp [matchR, hv]]
    (repeat' ((conv => whnf); first | refine stp ?_ | refine Cl.mk (hC) ?_ | refine Cl.mk (hV) ?_ | refine Cl.pre (by simp only [shcLL_ints, shcLL_byts, shcLL_strs, Bnd.shcs, Data.shcs, Fetc.shcs, Gran.shcs, Keyy.shcs, Mani.shcs, Name.shcs, Read.shcs, Rout.shcs, Rul.shcs, Segm.shcs, TEnt.shcs, Tru.shcs]; rfl) ?_))
    exact Vs.Fin.mk (WkR.refl _) (.refl _)
  | true =>
  rw [hv] at hV
  cases hw : vName n with
  | false =>
    rw [hw] at hW
    rw [show matchR p n l = (l, false) by simp [matchR, hw]]
    (repeat' ((conv => whnf); first | refine stp ?_ | refine Cl.mk (hC) ?_ | refine Cl.mk (hV) ?_ | refine Cl.mk (hW) ?_ | refine Cl.pre (by simp only [shcLL_ints, shcLL_byts, shcLL_strs, Bnd.shcs, Data.shcs, Fetc.shcs, Gran.shcs, Keyy.shcs, Mani.shcs, Name.shcs, Read.shcs, Rout.shcs, Rul.shcs, Segm.shcs, TEnt.shcs, Tru.shcs]; rfl) ?_))
    exact Vs.Fin.mk (WkR.refl _) (.refl _)
  | true =>
  rw [hw] at hW
  rw [show matchR p n l = mtR l (mt p n.parts l) by simp [matchR, hv, hw]]
  (repeat' ((conv => whnf); first | refine stp ?_ | refine Cl.mk (hC) ?_ | refine Cl.mk (hV) ?_ | refine Cl.mk (hW) ?_ | refine Nm.mk lenC ?_ | refine Cl.pre (by simp only [shcLL_ints, shcLL_byts, shcLL_strs, Bnd.shcs, Data.shcs, Fetc.shcs, Gran.shcs, Keyy.shcs, Mani.shcs, Name.shcs, Read.shcs, Rout.shcs, Rul.shcs, Segm.shcs, TEnt.shcs, Tru.shcs]; rfl) ?_))
  refine Lp.mk [.sl 2, .bx 3, .sl 3, .bx 4, .sl 4, .sl 8, .sl 25, .sl 26, .sl 27] (fun m σ => ∃ d r e s out, p = d ++ r ∧ n.parts = e ++ s ∧ e.length = d.length ∧ mt p n.parts l = mt r s out ∧ out.length ≤ l.length + d.length ∧ m = r.length ∧ σ = [Sa 2 (O (sl false 2 (l.map (Bnd.c false)))), Bx 3 ([cSs false p]), Pt 3, Bx 4 ((Name.c false n)), Pt 4, Sa 8 (O (.sl true .unk 2 (out.map (Bnd.c false)))), Sa 25 (O (cSs false p)), Sa 26 (I p.length), Sa 27 (I d.length)]) (p.length) _ (WkS.weak _ _) ⟨[], p, [], n.parts, l, rfl, rfl, rfl, rfl, by simp, rfl, (by first | rfl | (simp only [zlen, zsum, Nat.zero_mul, Int.add_zero, Int.sub_zero, List.nil_append, markG]; rfl))⟩ ?_
  rintro m τ ⟨d, r, e, s, out, h1, h2, he, hm, ho, rfl, rfl⟩
  rw [hm]
  clear hm
  have hy : p.length = d.length + r.length := by rw [h1]; simp
  have hy2 : n.parts.length = d.length + s.length := by rw [h2]; simp; omega
  cases r with
  | nil =>
    have f0 : decide ((d.length : Int) < (p.length : Int)) = false := by simp at hy ⊢; omega
    cases s with
    | nil =>
      have f1 : decide ((n.parts.length : Int) > (p.length : Int)) = false := by simp at hy hy2 ⊢; omega
      (repeat' ((conv => whnf); first | refine stp ?_ ))
      exact Vs.Fin.mk (WkR.refl _) (.refl _)
    | cons v s =>
      have f1 : decide ((n.parts.length : Int) > (p.length : Int)) = true := by simp at hy hy2 ⊢; omega
      (repeat' ((conv => whnf); first | refine stp ?_ | refine Cl.mk (hC) ?_ | refine Cl.pre (by simp only [shcLL_ints, shcLL_byts, shcLL_strs, Bnd.shcs, Data.shcs, Fetc.shcs, Gran.shcs, Keyy.shcs, Mani.shcs, Name.shcs, Read.shcs, Rout.shcs, Rul.shcs, Segm.shcs, TEnt.shcs, Tru.shcs]; rfl) ?_))
      exact Vs.Fin.mk (WkR.refl _) (.refl _)
  | cons x r =>
    have f0 : decide ((d.length : Int) < (p.length : Int)) = true := by simp at hy ⊢; omega
    have hx := strs_mem hp (s := x) (by rw [h1]; simp)
    simp at hy
    have a1 := @sE x sSs
    have a2 := @sE x sSt
    by_cases k1 : x = sSs
    · rw [decide_eq_true k1] at a1
      rw [mt_ss r s out k1]
      (repeat' ((conv => whnf); first | refine stp ?_ | refine El.mk (getH h1 rfl) ?_ | refine Cl.pre (by simp only [shcLL_ints, shcLL_byts, shcLL_strs, Bnd.shcs, Data.shcs, Fetc.shcs, Gran.shcs, Keyy.shcs, Mani.shcs, Name.shcs, Read.shcs, Rout.shcs, Rul.shcs, Segm.shcs, TEnt.shcs, Tru.shcs]; rfl) ?_))
      exact Vs.Fin.mk (WkR.refl _) (.refl _)
    rw [decide_eq_false k1] at a1
    cases s with
    | nil =>
      have f1 : decide ((d.length : Int) ≥ (n.parts.length : Int)) = true := by simp at hy2 ⊢; omega
      rw [mt_nil r out k1]
      (repeat' ((conv => whnf); first | refine stp ?_ | refine El.mk (getH h1 rfl) ?_ | refine Cl.mk (hC) ?_ | refine Cl.pre (by simp only [shcLL_ints, shcLL_byts, shcLL_strs, Bnd.shcs, Data.shcs, Fetc.shcs, Gran.shcs, Keyy.shcs, Mani.shcs, Name.shcs, Read.shcs, Rout.shcs, Rul.shcs, Segm.shcs, TEnt.shcs, Tru.shcs]; rfl) ?_))
      exact Vs.Fin.mk (WkR.refl _) (.refl _)
    | cons v s =>
      simp at hy2
      have f1 : decide ((d.length : Int) ≥ (n.parts.length : Int)) = false := by simp; omega
      have hvl : (strs n.parts)[((d.length : Nat) : Int).toNat]? = some [cS v] := by rw [← he]; exact getH h2 rfl
      have hI := IndexFunc_Bnd1 (l := out) (by omega) (p := fun b => decide (b.lt = x)) (fun b _ => i_Match_1 b x)
      by_cases k2 : x = sSt
      · rw [decide_eq_true k2] at a2
        rw [mt_st r s out k1 k2]
        generalize findI (fun b : Bnd => decide (b.lt = x)) out 0 = kx at hI
        (repeat' ((conv => whnf); first | refine stp ?_ | refine El.mk (getH h1 rfl) ?_ | refine El.mk hvl ?_ | refine Cl.mk (hI) ?_ | refine Rq.mk (by simp [dOwnL, dOwn]) ?_ | refine Cl.pre (by simp only [shcLL_ints, shcLL_byts, shcLL_strs, Bnd.shcs, Data.shcs, Fetc.shcs, Gran.shcs, Keyy.shcs, Mani.shcs, Name.shcs, Read.shcs, Rout.shcs, Rul.shcs, Segm.shcs, TEnt.shcs, Tru.shcs]; rfl) ?_))
        refine Nx.intro r.length (by simp) _ (WkS.weak _ _) ⟨d ++ [x], r, e ++ [v], s, out, by simp [h1], by simp [h2], by simp [he], rfl, by simp; omega, rfl, ?_⟩
        (repeat' (first | exact rfl | refine consE ?_ ?_ | refine entE ?_ | refine vI ?_ | refine vS ?_ | refine vT ?_ | refine vB ?_))
        all_goals simp
      rw [decide_eq_false k2] at a2
      have hIv := i_isVar x (by omega)
      have a3 := @sE x v
      cases hv2 : isVar x with
      | false =>
        rw [hv2] at hIv
        generalize findI (fun b : Bnd => decide (b.lt = x)) out 0 = kx at hI
        by_cases k3 : x = v
        · rw [decide_eq_true k3] at a3
          have f7 : (!(x.toList == v.toList)) = false := by rw [a3]; rfl
          rw [mt_pl r s out k1 k2 hv2, if_pos k3]
          (repeat' ((conv => whnf); first | refine stp ?_ | refine El.mk (getH h1 rfl) ?_ | refine El.mk hvl ?_ | refine Cl.mk (hI) ?_ | refine Rq.mk (by simp [dOwnL, dOwn]) ?_ | refine Cl.mk (hIv) ?_ | refine Cl.pre (by simp only [shcLL_ints, shcLL_byts, shcLL_strs, Bnd.shcs, Data.shcs, Fetc.shcs, Gran.shcs, Keyy.shcs, Mani.shcs, Name.shcs, Read.shcs, Rout.shcs, Rul.shcs, Segm.shcs, TEnt.shcs, Tru.shcs]; rfl) ?_))
          refine Nx.intro r.length (by simp) _ (WkS.weak _ _) ⟨d ++ [x], r, e ++ [v], s, out, by simp [h1], by simp [h2], by simp [he], rfl, by simp; omega, rfl, ?_⟩
          (repeat' (first | exact rfl | refine consE ?_ ?_ | refine entE ?_ | refine vI ?_ | refine vS ?_ | refine vT ?_ | refine vB ?_))
          all_goals simp
        · rw [decide_eq_false k3] at a3
          have f7 : (!(x.toList == v.toList)) = true := by rw [a3]; rfl
          rw [mt_pl r s out k1 k2 hv2, if_neg k3]
          (repeat' ((conv => whnf); first | refine stp ?_ | refine El.mk (getH h1 rfl) ?_ | refine El.mk hvl ?_ | refine Cl.mk (hI) ?_ | refine Rq.mk (by simp [dOwnL, dOwn]) ?_ | refine Cl.mk (hIv) ?_ | refine Cl.mk (hC) ?_ | refine Cl.pre (by simp only [shcLL_ints, shcLL_byts, shcLL_strs, Bnd.shcs, Data.shcs, Fetc.shcs, Gran.shcs, Keyy.shcs, Mani.shcs, Name.shcs, Read.shcs, Rout.shcs, Rul.shcs, Segm.shcs, TEnt.shcs, Tru.shcs]; rfl) ?_))
          exact Vs.Fin.mk (WkR.refl _) (.refl _)
      | true =>
        rw [hv2] at hIv
        rcases find_splitN (p := fun b : Bnd => decide (b.lt = x)) out with ⟨q1, q2⟩ | ⟨o1, b, o2, rfl, q2, q3, q4⟩
        · rw [findI_none q1 0] at hI
          rw [mt_new r s out k1 k2 hv2 q2]
          (repeat' ((conv => whnf); first | refine stp ?_ | refine El.mk (getH h1 rfl) ?_ | refine El.mk hvl ?_ | refine Cl.mk (hI) ?_ | refine Rq.mk (by simp [dOwnL, dOwn]) ?_ | refine Cl.mk (hIv) ?_ | refine Rq.mk (by simp; omega) ?_ | refine Cl.pre (by simp only [shcLL_ints, shcLL_byts, shcLL_strs, Bnd.shcs, Data.shcs, Fetc.shcs, Gran.shcs, Keyy.shcs, Mani.shcs, Name.shcs, Read.shcs, Rout.shcs, Rul.shcs, Segm.shcs, TEnt.shcs, Tru.shcs]; rfl) ?_))
          refine Nx.intro r.length (by simp) _ (WkS.weak _ _) ⟨d ++ [x], r, e ++ [v], s, out ++ [⟨x, v⟩], by simp [h1], by simp [h2], by simp [he], rfl, by simp; omega, rfl, ?_⟩
          (repeat' (first | exact rfl | refine consE ?_ ?_ | refine entE ?_ | refine vI ?_ | refine vS ?_ | refine vT ?_ | refine vB ?_))
          all_goals simp
        · rw [findI_at q2 q3 0] at hI
          simp only [Int.zero_add] at hI
          have f5 : decide ((o1.length : Int) < 0) = false := by simp
          have a4 := @sE b.vl v
          by_cases k3 : b.vl = v
          · rw [decide_eq_true k3] at a4
            have f6 : (!(b.vl.toList == v.toList)) = false := by rw [a4]; rfl
            rw [mt_old r s _ k1 k2 hv2 q4, if_pos k3]
            (repeat' ((conv => whnf); first | refine stp ?_ | refine El.mk (getH h1 rfl) ?_ | refine El.mk hvl ?_ | refine Cl.mk (hI) ?_ | refine Rq.mk (by simp [dOwnL, dOwn]) ?_ | refine Cl.mk (hIv) ?_ | refine Rq.mk ⟨by omega, by simp; omega⟩ ?_ | refine El.mk (getA rfl) ?_ | refine Cl.pre (by simp only [shcLL_ints, shcLL_byts, shcLL_strs, Bnd.shcs, Data.shcs, Fetc.shcs, Gran.shcs, Keyy.shcs, Mani.shcs, Name.shcs, Read.shcs, Rout.shcs, Rul.shcs, Segm.shcs, TEnt.shcs, Tru.shcs]; rfl) ?_))
            refine Nx.intro r.length (by simp) _ (WkS.weak _ _) ⟨d ++ [x], r, e ++ [v], s, o1 ++ b :: o2, by simp [h1], by simp [h2], by simp [he], rfl, by simp at ho ⊢; omega, rfl, ?_⟩
            (repeat' (first | exact rfl | refine consE ?_ ?_ | refine entE ?_ | refine vI ?_ | refine vS ?_ | refine vT ?_ | refine vB ?_))
            all_goals simp
          · rw [decide_eq_false k3] at a4
            have f6 : (!(b.vl.toList == v.toList)) = true := by rw [a4]; rfl
            rw [mt_old r s _ k1 k2 hv2 q4, if_neg k3]
            (repeat' ((conv => whnf); first | refine stp ?_ | refine El.mk (getH h1 rfl) ?_ | refine El.mk hvl ?_ | refine Cl.mk (hI) ?_ | refine Rq.mk (by simp [dOwnL, dOwn]) ?_ | refine Cl.mk (hIv) ?_ | refine Rq.mk ⟨by omega, by simp; omega⟩ ?_ | refine El.mk (getA rfl) ?_ | refine Cl.mk (hC) ?_ | refine Cl.pre (by simp only [shcLL_ints, shcLL_byts, shcLL_strs, Bnd.shcs, Data.shcs, Fetc.shcs, Gran.shcs, Keyy.shcs, Mani.shcs, Name.shcs, Read.shcs, Rout.shcs, Rul.shcs, Segm.shcs, TEnt.shcs, Tru.shcs]; rfl) ?_))
            exact Vs.Fin.mk (WkR.refl _) (.refl _)
end Go.Proofs.YtoekfmkbkffciaaGreatDoor
