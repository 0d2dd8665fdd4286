/- Contracts of functions of the program: no statement of the seat is proved here. Each under the conditions that stand in it. -/
import Derived.Test.YtoekfmkbkffciaaGreatDoorM4
import Derived.Test.YtoekfmkbkffciaaGreatDoorPb
set_option linter.all false
namespace Go.Proofs.YtoekfmkbkffciaaGreatDoor
open Go.Vs Go.Proofs
/-! Rules, read from texts; certificates -/
def pP (s : ByteArray) : List ByteArray :=
  if s = slash then [] else match spl 47 [] s.data.toList with
  | [] => []
  | [_] => []
  | x :: y :: l => if x = emp ∧ vPat (y :: l) = true then y :: l else []
def pPO (s : ByteArray) : Bool :=
  decide (s = slash) || match spl 47 [] s.data.toList with
  | [] => false
  | [_] => false
  | x :: y :: l => decide (x = emp ∧ vPat (y :: l) = true)
theorem is72 : FI 72 Tryz.f72 := ⟨⟨Tryz.f72, Tryz.func72, rfl, rfl, rfl, rfl⟩, rfl⟩
set_option maxRecDepth 20000 in
set_option maxHeartbeats 16000000 in
theorem s_ParsePat (s : ByteArray) (hs : s.size ≤ 1048576) : FO 72 [S s] [S s] (NBs ⟨pP s⟩ (pPO s)) := by
  refine fok envOk mixed is72 ⟨rfl, rfl, ?_⟩
  have hS := s_l4Split s 47 hs
  have hsz := @dsz s
  have hT := spl_len 47 s.data.toList []
  have hZ := spl_sz 47 s.data.toList []
  have hEq := @sE s slash
  by_cases h : s = slash
  · rw [decide_eq_true h] at hEq
    have e : pP s = [] ∧ pPO s = true := by simp [pP, pPO, h]
    rw [e.1, e.2]
    (repeat' ((conv => whnf); first | refine stp ?_ ))
    exact Vs.Fin.mk (nbs_nil _) (.refl _)
  · rw [decide_eq_false h] at hEq
    have e1 : pP s = (match spl 47 [] s.data.toList with | [] => [] | [_] => [] | x :: y :: l => if x = emp ∧ vPat (y :: l) = true then y :: l else []) := by rw [pP, if_neg h]
    have e2 : pPO s = (match spl 47 [] s.data.toList with | [] => false | [_] => false | x :: y :: l => decide (x = emp ∧ vPat (y :: l) = true)) := by rw [pPO, decide_eq_false h, Bool.false_or]
    rw [e1, e2]
    generalize spl 47 [] s.data.toList = T at hS hT hZ
    cases T with
    | nil => simp at hT
    | cons x l =>
      cases l with
      | nil =>
        have f1 : decide ((1 : Int) < 2) = true := by simp
        have hlen : (((shcLL (strs [x])).length : Nat) : Int) = 1 := by rw [shcLL_strs]; rfl
        (repeat' ((conv => whnf); first | refine stp ?_ | refine Cl.mk (hS) ?_ | refine Rq.mk (by simp) ?_ | refine Nm.mk hlen ?_ | refine Cl.pre (by simp only [shcLL_ints, shcLL_byts, shcLL_strs, Data.shcs, Fetc.shcs, Gran.shcs, Keyy.shcs, Mani.shcs, Name.shcs, Read.shcs, Rout.shcs, Segm.shcs, TEnt.shcs]; rfl) ?_))
        exact Vs.Fin.mk (nbs_nil _) (.refl _)
      | cons y l =>
        have hsy : strsSize (y :: l) ≤ 3145728 := by
          simp only [strsSize, sumN, List.length_cons, List.length_nil] at hZ ⊢
          simp at hT
          omega
        have hln := strs_len hsy
        have f1 : decide ((((x :: y :: l).length : Nat) : Int) < 2) = false := by simp; omega
        have hx := @sE x emp
        have hlen : (((shcLL (strs (x :: y :: l))).length : Nat) : Int) = (((x :: y :: l).length : Nat) : Int) := by rw [shcLL_strs]; simp
        by_cases hxe : x = emp
        · rw [decide_eq_true hxe] at hx
          have hx2 : (!(x.toList == emp.toList)) = false := by rw [hx]; rfl
          have hV := s_ValidPattern (y :: l) (Nat.le_trans hsy (by omega))
          cases hv : vPat (y :: l) with
          | true =>
            rw [hv] at hV
            have e3 : (x = emp ∧ vPat (y :: l) = true) := ⟨hxe, hv⟩
            simp only []
            rw [if_pos e3, decide_eq_true e3]
            (repeat' ((conv => whnf); first | refine stp ?_ | refine Cl.mk (hS) ?_ | refine Rq.mk (by simp; omega) ?_ | refine Nm.mk hlen ?_ | refine El.mk (m := [cS x]) rfl ?_ | refine Cl.eq hV (by rw [tail_strs]) ?_ | refine Cl.pre (by simp only [shcLL_ints, shcLL_byts, shcLL_strs, Data.shcs, Fetc.shcs, Gran.shcs, Keyy.shcs, Mani.shcs, Name.shcs, Read.shcs, Rout.shcs, Segm.shcs, TEnt.shcs]; rfl) ?_))
            refine Vs.Fin.mk (WkR.eq ?_) (.refl _)
            rw [tail_strs]; rfl
          | false =>
            rw [hv] at hV
            simp only []
            rw [if_neg (by rw [hv]; simp), decide_eq_false (by rw [hv]; simp)]
            (repeat' ((conv => whnf); first | refine stp ?_ | refine Cl.mk (hS) ?_ | refine Rq.mk (by simp; omega) ?_ | refine Nm.mk hlen ?_ | refine El.mk (m := [cS x]) rfl ?_ | refine Cl.eq hV (by rw [tail_strs]) ?_ | refine Cl.pre (by simp only [shcLL_ints, shcLL_byts, shcLL_strs, Data.shcs, Fetc.shcs, Gran.shcs, Keyy.shcs, Mani.shcs, Name.shcs, Read.shcs, Rout.shcs, Segm.shcs, TEnt.shcs]; rfl) ?_))
            exact Vs.Fin.mk (nbs_nil _) (.refl _)
        · rw [decide_eq_false hxe] at hx
          have hx2 : (!(x.toList == emp.toList)) = true := by rw [hx]; rfl
          simp only []
          rw [if_neg (fun h => hxe h.1), decide_eq_false (fun h => hxe h.1)]
          (repeat' ((conv => whnf); first | refine stp ?_ | refine Cl.mk (hS) ?_ | refine Rq.mk (by simp; omega) ?_ | refine Nm.mk hlen ?_ | refine El.mk (m := [cS x]) rfl ?_ | refine Cl.pre (by simp only [shcLL_ints, shcLL_byts, shcLL_strs, Data.shcs, Fetc.shcs, Gran.shcs, Keyy.shcs, Mani.shcs, Name.shcs, Read.shcs, Rout.shcs, Segm.shcs, TEnt.shcs]; rfl) ?_))
          exact Vs.Fin.mk (nbs_nil _) (.refl _)
theorem is104 : FI 104 Tryz.f104 := ⟨⟨Tryz.f104, Tryz.func104, rfl, rfl, rfl, rfl⟩, rfl⟩
set_option maxRecDepth 20000 in
set_option maxHeartbeats 16000000 in
theorem s_l10Has (p : List ByteArray) (s : ByteArray) (hz : strsSize p ≤ 109951162777) (hs : s.size ≤ 1099511627776) : FO 104 [A [cSs false p], S s] [A [cSs false p], S s] (B (p.any fun y => decide (y = s))) := by
  refine fok envOk mixed is104 ⟨rfl, rfl, ?_⟩
  have hl := strs_len hz
  refine Lp.mk [.sl 1, .bx 2, .sl 2, .sl 5] (fun m σ => ∃ d r, p = d ++ r ∧ m = r.length ∧ (d.any fun y => decide (y = s)) = false ∧ σ = [Sa 1 (S s), Bx 2 ([cSs false p]), Pt 2, Sa 5 (I d.length)]) (p.length) _ (WkS.weak _ _) ⟨[], p, rfl, rfl, rfl, (by first | rfl | (simp only [zlen, zsum, Nat.zero_mul, Int.add_zero, Int.sub_zero, List.nil_append, markG]; rfl))⟩ ?_
  rintro m τ ⟨d, r, rfl, rfl, hd, rfl⟩
  refine Nm.mk lenC ?_
  cases r with
  | nil =>
    refine Br.neg (by simp) ?_
    (repeat' ((conv => whnf); first | refine stp ?_ | refine Br.mk (fun _ => ?_) (fun _ => ?_) ))
    refine Vs.Fin.mk (WkR.eq ?_) (.refl _)
    simp_all
  | cons x r =>
    simp at hl
    have e := @sE x s
    refine Br.pos (by simp; omega) ?_
    by_cases h : x = s
    · rw [decide_eq_true h] at e
      (repeat' ((conv => whnf); first | refine stp ?_ | refine El.mk (getA rfl) ?_ | refine Cl.pre (by simp only [shcLL_ints, shcLL_byts, shcLL_strs, Data.shcs, Fetc.shcs, Gran.shcs, Keyy.shcs, Mani.shcs, Name.shcs, Read.shcs, Rout.shcs, Segm.shcs, TEnt.shcs]; rfl) ?_))
      refine Vs.Fin.mk (WkR.eq ?_) (.refl _)
      simp_all
    · rw [decide_eq_false h] at e
      (repeat' ((conv => whnf); first | refine stp ?_ | refine El.mk (getA rfl) ?_ | refine Cl.pre (by simp only [shcLL_ints, shcLL_byts, shcLL_strs, Data.shcs, Fetc.shcs, Gran.shcs, Keyy.shcs, Mani.shcs, Name.shcs, Read.shcs, Rout.shcs, Segm.shcs, TEnt.shcs]; rfl) ?_))
      refine Nx.intro r.length (by simp) _ (WkS.weak _ _) ⟨d ++ [x], r, by simp, rfl, by simp_all, ?_⟩
      rw [len1]; rfl
theorem is73 : FI 73 Tryz.f73 := ⟨⟨Tryz.f73, Tryz.func73, rfl, rfl, rfl, rfl⟩, rfl⟩
set_option maxRecDepth 20000 in
set_option maxHeartbeats 16000000 in
theorem s_ValidRule (p k : List ByteArray) (hp : strsSize p ≤ 1048576) (hk : strsSize k ≤ 1048576) : FO 73 [A [cSs false p, cSs false k]] [A [cSs false p, cSs false k]] (B (vRul p k)) := by
  refine fok envOk mixed is73 ⟨rfl, rfl, ?_⟩
  have hpl := strs_len hp
  have hkl := strs_len hk
  have hV := s_ValidPattern p (by omega)
  have hW := s_ValidPattern k (by omega)
  have e : vRul p k = (vPat p && vPat k && k.all (rlP p)) := rfl
  rw [e]
  generalize vPat p = a at hV
  generalize vPat k = b at hW
  by_cases hab : a = true ∧ b = true
  case neg =>
    (repeat' ((conv => whnf); first | refine stp ?_ | refine Br.mk (fun _ => ?_) (fun _ => ?_) | refine Cl.mk (hV) ?_ | refine Cl.mk (hW) ?_ | refine Cl.pre (by simp only [shcLL_ints, shcLL_byts, shcLL_strs, Data.shcs, Fetc.shcs, Gran.shcs, Keyy.shcs, Mani.shcs, Name.shcs, Read.shcs, Rout.shcs, Segm.shcs, TEnt.shcs]; rfl) ?_))
    all_goals first
      | (refine Vs.Fin.mk (WkR.eq ?_) (.refl _); simp_all; done)
      | (exfalso; simp_all; done)
  obtain ⟨rfl, rfl⟩ := hab
  (repeat' ((conv => whnf); first | refine stp ?_ | refine Cl.mk (hV) ?_ | refine Cl.mk (hW) ?_ | refine Cl.pre (by simp only [shcLL_ints, shcLL_byts, shcLL_strs, Data.shcs, Fetc.shcs, Gran.shcs, Keyy.shcs, Mani.shcs, Name.shcs, Read.shcs, Rout.shcs, Segm.shcs, TEnt.shcs]; rfl) ?_))
  refine Lp.mk [.bx 1, .sl 1, .sl 3] (fun m σ => ∃ d r, k = d ++ r ∧ m = r.length ∧ d.all (rlP p) = true ∧ σ = [Bx 1 ([cSs false p, cSs false k]), Pt 1, Sa 3 (I d.length)]) (k.length) _ (WkS.weak _ _) ⟨[], k, rfl, rfl, rfl, (by first | rfl | (simp only [zlen, zsum, Nat.zero_mul, Int.add_zero, Int.sub_zero, List.nil_append, markG]; rfl))⟩ ?_
  rintro m τ ⟨d, r, rfl, rfl, hd, rfl⟩
  refine Nm.mk lenC ?_
  cases r with
  | nil =>
    refine Br.neg (by simp) ?_
    (repeat' ((conv => whnf); first | refine stp ?_ | refine Br.mk (fun _ => ?_) (fun _ => ?_) ))
    refine Vs.Fin.mk (WkR.eq ?_) (.refl _)
    simp_all
  | cons x r =>
    have hx := strs_mem hk (s := x) (by simp)
    simp at hkl
    refine Br.pos (by simp; omega) ?_
    have hA := s_l5Letter x (by omega)
    have hB := s_l10Has p x (by omega) (by omega)
    have hC : rlP p x = (!isVar x || p.any fun y => decide (y = x)) := rfl
    generalize isVar x = c at hA hC
    generalize (p.any fun y => decide (y = x)) = c2 at hB hC
    (repeat' ((conv => whnf); first | refine stp ?_ | refine Br.mk (fun _ => ?_) (fun _ => ?_) | refine El.mk (getA rfl) ?_ | refine Cl.mk (hA) ?_ | refine Cl.mk (hB) ?_ | refine Cl.pre (by simp only [shcLL_ints, shcLL_byts, shcLL_strs, Data.shcs, Fetc.shcs, Gran.shcs, Keyy.shcs, Mani.shcs, Name.shcs, Read.shcs, Rout.shcs, Segm.shcs, TEnt.shcs]; rfl) ?_))
    all_goals first
      | (refine Vs.Fin.mk (WkR.eq ?_) (.refl _); simp_all; done)
      | (refine Nx.intro r.length (by simp) _ (WkS.weak _ _) ⟨d ++ [x], r, by simp, rfl, by simp_all, ?_⟩; rw [len1]; rfl)
theorem is45 : FI 45 Tryz.f45 := ⟨⟨Tryz.f45, Tryz.func45, rfl, rfl, rfl, rfl⟩, rfl⟩
set_option maxRecDepth 20000 in
set_option maxHeartbeats 16000000 in
theorem s_ParseRule (s a b : ByteArray) (hs : s.size ≤ 1048576) (hsp : spl 32 [] s.data.toList = [a, sLt, b]) (has : a.size ≤ 1048576) (hbs : b.size ≤ 1048576) (ha : pPO a = true) (hb : pPO b = true) (hal : strsSize (pP a) ≤ 1048576) (hbl : strsSize (pP b) ≤ 1048576) (hr : vRul (pP a) (pP b) = true) : FO 45 [S s] [S s] ((.tup [(true, 2), (false, 1)], [cSs false (pP a), cSs false (pP b), cB true])) := by
  refine fok envOk mixed is45 ⟨rfl, rfl, ?_⟩
  have hS := s_l4Split s 32 hs
  rw [hsp] at hS
  have hA := s_ParsePat a has
  have hB := s_ParsePat b hbs
  rw [ha] at hA
  rw [hb] at hB
  have hR := s_ValidRule (pP a) (pP b) hal hbl
  rw [hr] at hR
  have f1 : (!(sLt.toList == ByteArray.toList ⟨#[60]⟩)) = false := by simp [sLt]
  generalize pP a = p at hA hR
  generalize pP b = q at hB hR
  (repeat' ((conv => whnf); first | refine stp ?_ | refine Cl.mk (hS) ?_ | refine Nm.mk (m := 3) rfl ?_ | refine El.mk (m := [cS sLt]) rfl ?_ | refine El.mk (m := [cS a]) rfl ?_ | refine El.mk (m := [cS b]) rfl ?_ | refine Cl.mk (hA) ?_ | refine Cl.mk (hB) ?_ | refine Cl.mk (hR) ?_ | refine Cl.pre (by simp only [shcLL_ints, shcLL_byts, shcLL_strs, Data.shcs, Fetc.shcs, Gran.shcs, Keyy.shcs, Mani.shcs, Name.shcs, Read.shcs, Rout.shcs, Segm.shcs, TEnt.shcs]; rfl) ?_))
  exact Vs.Fin.mk (WkR.refl _) (.refl _)
def kDig (l : List Keyy) (n : Name) : List UInt8 := if secOf l n = 0 then [] else evi (digest [secOf l n])
theorem kDig_len (l : List Keyy) (n : Name) : (kDig l n).length ≤ 10 := by
  unfold kDig
  split
  · simp
  · have := evi_len (digest [secOf l n]); omega
theorem sh_Yo {f : Nat} {args outs : List Arg} {x : List UInt8} (h : FO f args outs (Ys true x)) : FO f args outs (Ys false x) := by
  have : FO f args outs (.one, shcL [cYs true x]) := FOk.wk h (.refl _) (.refl _) ⟨rfl, .inr (WkL.refl _)⟩
  rwa [show shcL [cYs true x] = [cYs false x] by simp [shcL, Vs.shc, shcLL_byts]] at this
theorem is74 : FI 74 Tryz.f74 := ⟨⟨Tryz.f74, Tryz.func74, rfl, rfl, rfl, rfl⟩, rfl⟩
set_option maxRecDepth 20000 in
set_option maxHeartbeats 16000000 in
theorem s_KeyDigest (l : List Keyy) (n : Name) (hl : l.length + sumN Keyy.size l ≤ 1048576) (hn : strsSize n.parts ≤ 1048576) : FO 74 [O (sl false 2 (l.map (Keyy.c false))), A (Name.c false n)] [O (sl false 2 (l.map (Keyy.c false))), A (Name.c false n)] (Ys true (kDig l n)) := by
  refine fok envOk mixed is74 ⟨rfl, rfl, ?_⟩
  have hS := s_SecretOf l n hl hn
  unfold kDig
  generalize secOf l n = x at hS
  by_cases h : x = 0
  · subst h
    rw [if_pos rfl]
    (repeat' ((conv => whnf); first | refine stp ?_ | refine Cl.mk (hS) ?_ | refine Cl.pre (by simp only [shcLL_ints, shcLL_byts, shcLL_strs, Data.shcs, Fetc.shcs, Gran.shcs, Keyy.shcs, Mani.shcs, Name.shcs, Read.shcs, Rout.shcs, Segm.shcs, TEnt.shcs]; rfl) ?_))
    exact Vs.Fin.mk (WkR.of (.sl1 rfl .nil)) (.refl _)
  · rw [if_neg h]
    have f1 : (x == 0) = false := by simp [h]
    have hD := s_Digest [x] (by simp)
    have hA := s_AppendVarint [] (digest [x]) (by simp)
    (repeat' ((conv => whnf); first | refine stp ?_ | refine Cl.mk (hS) ?_ | refine Cl.mk (hD) ?_ | refine Cl.mk (hA) ?_ | refine Cl.pre (by simp only [shcLL_ints, shcLL_byts, shcLL_strs, Data.shcs, Fetc.shcs, Gran.shcs, Keyy.shcs, Mani.shcs, Name.shcs, Read.shcs, Rout.shcs, Segm.shcs, TEnt.shcs]; rfl) ?_))
    exact Vs.Fin.mk (WkR.refl _) (.refl _)
theorem is46 : FI 46 Tryz.f46 := ⟨⟨Tryz.f46, Tryz.func46, rfl, rfl, rfl, rfl⟩, rfl⟩
set_option maxRecDepth 20000 in
set_option maxHeartbeats 16000000 in
theorem s_Issue (l : List Keyy) (n key : Name) (till : Int) (hl : l.length + sumN Keyy.size l ≤ 1048576) (hk : strsSize key.parts ≤ 1048576) (hn : strsSize n.parts ≤ 1048576) : FO 46 [O (sl false 2 (l.map (Keyy.c false))), A (Name.c false n), A (Name.c false key), I till] [O (sl false 2 (l.map (Keyy.c false))), A (Name.c false n), A (Name.c false key), I till] (DB (swkR l key n (kDig l n) till) (swkO l key n (kDig l n) till)) := by
  refine fok envOk mixed is46 ⟨rfl, rfl, ?_⟩
  have hK := sh_Yo (s_KeyDigest l n hl hn)
  have hd := kDig_len l n
  generalize kDig l n = c at hK hd
  (repeat' ((conv => whnf); first | refine stp ?_ | refine Cl.mk (hK) ?_ | refine Cl.mk (s_SignWithKey l key n c till hl hk hn (by omega)) ?_ | refine Cl.pre (by simp only [shcLL_ints, shcLL_byts, shcLL_strs, Data.shcs, Fetc.shcs, Gran.shcs, Keyy.shcs, Mani.shcs, Name.shcs, Read.shcs, Rout.shcs, Segm.shcs, TEnt.shcs]; rfl) ?_))
  exact Vs.Fin.mk (WkR.refl _) (.refl _)
end Go.Proofs.YtoekfmkbkffciaaGreatDoor
