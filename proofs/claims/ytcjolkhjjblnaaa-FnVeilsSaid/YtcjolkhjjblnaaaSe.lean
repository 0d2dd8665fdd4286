/- Contracts of functions of the program: no statement of the seat is proved here. Each under the conditions that stand in it. -/
import Derived.Test.YtcjolkhjjblnaaaSd
import Derived.Test.YtcjolkhjjblnaaaFr
set_option linter.all false
namespace Go.Proofs.Ytcjolkhjjblnaaa
open Go.Vs Go.Proofs
def openC (l : List Gran) (n : Name) (b : List UInt8) : Option (List UInt8) := match rdV b 0 0 with
  | none => none
  | some (x, c) => if l.any (covs n) = true then (if (x : Int) = mac (gsec l n) (b2i (decL (gsec l n) (b.drop c))) then some (decL (gsec l n) (b.drop c)) else none) else none
abbrev YB (b : List UInt8) (ok : Bool) : Arg := (.tup [(false, 1), (false, 1)], [cYs true b, cB ok])
theorem yb_non (ok : Bool) : WkR (.tup [(false, 1), (false, 1)], [AV.sl true .non 1 [], cB ok]) (YB [] ok) := WkR.of (.top (.refl _))
theorem yb_nil (ok : Bool) : WkR (.tup [(false, 1), (false, 1)], [AV.sl true .isnil 0 [], cB ok]) (YB [] ok) := WkR.of (.nils (.refl _))
def openB (l : List Gran) (n : Name) (b : List UInt8) : List UInt8 := (openC l n b).getD []
def openO (l : List Gran) (n : Name) (b : List UInt8) : Bool := (openC l n b).isSome
theorem openB_len (l : List Gran) (n : Name) (b : List UInt8) : (openB l n b).length ≤ b.length := by
  unfold openB openC
  split
  · simp
  · split
    · split <;> simp
    · simp
theorem is44 : FI 44 Try.f44 := ⟨⟨Try.f44, Try.func44, rfl, rfl, rfl, rfl⟩, rfl⟩
set_option maxRecDepth 20000 in
set_option maxHeartbeats 16000000 in
theorem s_OpenContent (l : List Gran) (n : Name) (b : List UInt8) (hz : l.length + sumN Gran.size l ≤ 1048576) (hn : strsSize n.parts ≤ 1048576) (hb : b.length ≤ 1048576) : FO 44 [O (sl false 2 (l.map (Gran.c false))), A (Name.c false n), Ys false b] [O (sl false 2 (l.map (Gran.c false))), A (Name.c false n), Ys false b] (YB (openB l n b) (openO l n b)) := by
  refine fok envOk mixed is44 ⟨rfl, rfl, ?_⟩
  have h9 := s_ReadVarint b 0 hb (by omega)
  rw [List.drop_zero] at h9
  cases hx : rdV b 0 0 with
  | none =>
    rw [hx] at h9
    have h8 : FO 98 [Ys false b, I 0] [Ys false b, I 0] (T3 0 0 false) := h9
    rw [show openB l n b = [] by simp [openB, openC, hx], show openO l n b = false by simp [openO, openC, hx]]
    (repeat' ((conv => whnf); first | refine Br.tt ?_ | refine Br.ff ?_ | refine Br.pos (by assumption) ?_ | refine Br.neg (by assumption) ?_ | refine Br.bself ?_ | refine Br.dself ?_ | refine Br.iself ?_ | refine Br.mk (fun _ => ?_) (fun _ => ?_) | refine Nm.mk lenC ?_ | refine Nm.mk (wrapI (by (first | omega | (simp [inR_t, inR_f] at *; omega))) (by (first | omega | (simp [inR_t, inR_f] at *; omega)))) ?_ | refine Nm.mk (wrapQ (by (first | omega | (simp [inR_t, inR_f] at *; omega))) (by (first | omega | (simp [inR_t, inR_f] at *; omega))) (by (first | omega | (simp [inR_t, inR_f] at *; omega)))) ?_ | refine Nm.mk (tmodN (by (first | omega | (simp [inR_t, inR_f] at *; omega)))) ?_ | refine Nm.mk (szS _) ?_ | refine Nm.mk (mi_eq _ _) ?_ | refine Nm.mk (ma_eq _ _) ?_ | refine Rq.mk (by first | (simp [dOwnL, dOwn] <;> fail) | (first | omega | (simp [inR_t, inR_f] at *; omega))) ?_ | refine And.intro (orderFast (by kernel_rfl)) ?_ | refine And.intro (by kernel_rfl) ?_ | refine Cl.mk (h8) ?_ | refine Cl.mk (s_GrantCovers l n hz hn) ?_ | refine Cl.pre (by simp only [shcLL_ints, shcLL_byts, shcLL_strs, Fetc.shcs, Gran.shcs, Mani.shcs, Name.shcs, Read.shcs, Segm.shcs]; rfl) ?_))
    all_goals exact Vs.Fin.mk (yb_non _) (.refl _)
  | some xc =>
    obtain ⟨x, c⟩ := xc
    rw [hx] at h9
    have h8 : FO 98 [Ys false b, I 0] [Ys false b, I 0] (T3 x ((0 + c : Nat) : Int) true) := h9
    rw [Nat.zero_add] at h8
    have hle := rdV_le _ _ _ _ _ hx
    cases hc : l.any (covs n) with
    | false =>
      have f1 : (!l.any (covs n)) = true := by simp [hc]
      rw [show openB l n b = [] by simp [openB, openC, hx, hc], show openO l n b = false by simp [openO, openC, hx, hc]]
      (repeat' ((conv => whnf); first | refine Br.tt ?_ | refine Br.ff ?_ | refine Br.pos (by assumption) ?_ | refine Br.neg (by assumption) ?_ | refine Br.bself ?_ | refine Br.dself ?_ | refine Br.iself ?_ | refine Nm.mk lenC ?_ | refine Nm.mk (wrapI (by (first | omega | (simp [inR_t, inR_f] at *; omega))) (by (first | omega | (simp [inR_t, inR_f] at *; omega)))) ?_ | refine Nm.mk (wrapQ (by (first | omega | (simp [inR_t, inR_f] at *; omega))) (by (first | omega | (simp [inR_t, inR_f] at *; omega))) (by (first | omega | (simp [inR_t, inR_f] at *; omega)))) ?_ | refine Nm.mk (tmodN (by (first | omega | (simp [inR_t, inR_f] at *; omega)))) ?_ | refine Nm.mk (szS _) ?_ | refine Nm.mk (mi_eq _ _) ?_ | refine Nm.mk (ma_eq _ _) ?_ | refine Rq.mk (by first | (simp [dOwnL, dOwn] <;> fail) | (first | omega | (simp [inR_t, inR_f] at *; omega))) ?_ | refine And.intro (orderFast (by kernel_rfl)) ?_ | refine And.intro (by kernel_rfl) ?_ | refine Cl.mk (h8) ?_ | refine Cl.mk (s_GrantCovers l n hz hn) ?_ | refine Cl.pre (by simp only [shcLL_ints, shcLL_byts, shcLL_strs, Fetc.shcs, Gran.shcs, Mani.shcs, Name.shcs, Read.shcs, Segm.shcs]; rfl) ?_))
      exact Vs.Fin.mk (yb_non _) (.refl _)
    | true =>
      have f1 : (!l.any (covs n)) = false := by simp [hc]
      have ho : openC l n b = if (x : Int) = mac (gsec l n) (b2i (decL (gsec l n) (b.drop c))) then some (decL (gsec l n) (b.drop c)) else none := by simp only [openC, hx, hc]; rfl
      (repeat' ((conv => whnf); first | refine Br.tt ?_ | refine Br.ff ?_ | refine Br.pos (by assumption) ?_ | refine Br.neg (by assumption) ?_ | refine Br.bself ?_ | refine Br.dself ?_ | refine Br.iself ?_ | refine Nm.mk lenC ?_ | refine Nm.mk (wrapI (by (first | omega | (simp [inR_t, inR_f] at *; omega))) (by (first | omega | (simp [inR_t, inR_f] at *; omega)))) ?_ | refine Nm.mk (wrapQ (by (first | omega | (simp [inR_t, inR_f] at *; omega))) (by (first | omega | (simp [inR_t, inR_f] at *; omega))) (by (first | omega | (simp [inR_t, inR_f] at *; omega)))) ?_ | refine Nm.mk (tmodN (by (first | omega | (simp [inR_t, inR_f] at *; omega)))) ?_ | refine Nm.mk (szS _) ?_ | refine Nm.mk (mi_eq _ _) ?_ | refine Nm.mk (ma_eq _ _) ?_ | refine Rq.mk (by first | (simp [dOwnL, dOwn] <;> fail) | (first | omega | (simp [inR_t, inR_f] at *; omega))) ?_ | refine And.intro (orderFast (by kernel_rfl)) ?_ | refine And.intro (by kernel_rfl) ?_ | refine Cl.mk (h8) ?_ | refine Cl.mk (s_GrantCovers l n hz hn) ?_ | refine Cl.mk (s_GrantedSecret l n hz hn) ?_ | refine Cl.pre (by simp only [shcLL_ints, shcLL_byts, shcLL_strs, Fetc.shcs, Gran.shcs, Mani.shcs, Name.shcs, Read.shcs, Segm.shcs]; rfl) ?_))
      refine Cl.eq (s_Decrypt (gsec l n) (b.drop c) (by simp; omega)) (by simp; rw [List.take_of_length_le (by simp)]) ?_
      (repeat' ((conv => whnf); first | refine Br.tt ?_ | refine Br.ff ?_ | refine Br.pos (by assumption) ?_ | refine Br.neg (by assumption) ?_ | refine Br.bself ?_ | refine Br.dself ?_ | refine Br.iself ?_ | refine Nm.mk lenC ?_ | refine Nm.mk (wrapI (by (first | omega | (simp [inR_t, inR_f] at *; omega))) (by (first | omega | (simp [inR_t, inR_f] at *; omega)))) ?_ | refine Nm.mk (wrapQ (by (first | omega | (simp [inR_t, inR_f] at *; omega))) (by (first | omega | (simp [inR_t, inR_f] at *; omega))) (by (first | omega | (simp [inR_t, inR_f] at *; omega)))) ?_ | refine Nm.mk (tmodN (by (first | omega | (simp [inR_t, inR_f] at *; omega)))) ?_ | refine Nm.mk (szS _) ?_ | refine Nm.mk (mi_eq _ _) ?_ | refine Nm.mk (ma_eq _ _) ?_ | refine Rq.mk (by first | (simp [dOwnL, dOwn] <;> fail) | (first | omega | (simp [inR_t, inR_f] at *; omega))) ?_ | refine And.intro (orderFast (by kernel_rfl)) ?_ | refine And.intro (by kernel_rfl) ?_ | refine Cl.mk (s_BytesToInts (decL (gsec l n) (b.drop c)) (by simp; omega)) ?_ | refine Cl.mk (s_ComputeMAC (gsec l n) (b2i (decL (gsec l n) (b.drop c))) (by rw [b2i_len]; simp; omega)) ?_ | refine Cl.pre (by simp only [shcLL_ints, shcLL_byts, shcLL_strs, Fetc.shcs, Gran.shcs, Mani.shcs, Name.shcs, Read.shcs, Segm.shcs]; rfl) ?_))
      by_cases he : (x : Int) = mac (gsec l n) (b2i (decL (gsec l n) (b.drop c)))
      · rw [show openB l n b = decL (gsec l n) (b.drop c) by unfold openB; rw [ho, if_pos he]; rfl, show openO l n b = true by unfold openO; rw [ho, if_pos he]; rfl]
        refine Br.neg (by simp [he]) ?_
        (repeat' ((conv => whnf); first | refine Br.tt ?_ | refine Br.ff ?_ | refine Br.pos (by assumption) ?_ | refine Br.neg (by assumption) ?_ | refine Br.bself ?_ | refine Br.dself ?_ | refine Br.iself ?_ | refine Nm.mk lenC ?_ | refine Nm.mk (wrapI (by (first | omega | (simp [inR_t, inR_f] at *; omega))) (by (first | omega | (simp [inR_t, inR_f] at *; omega)))) ?_ | refine Nm.mk (wrapQ (by (first | omega | (simp [inR_t, inR_f] at *; omega))) (by (first | omega | (simp [inR_t, inR_f] at *; omega))) (by (first | omega | (simp [inR_t, inR_f] at *; omega)))) ?_ | refine Nm.mk (tmodN (by (first | omega | (simp [inR_t, inR_f] at *; omega)))) ?_ | refine Nm.mk (szS _) ?_ | refine Nm.mk (mi_eq _ _) ?_ | refine Nm.mk (ma_eq _ _) ?_ | refine Rq.mk (by first | (simp [dOwnL, dOwn] <;> fail) | (first | omega | (simp [inR_t, inR_f] at *; omega))) ?_ | refine And.intro (orderFast (by kernel_rfl)) ?_ | refine And.intro (by kernel_rfl) ?_ ))
        exact Vs.Fin.mk (WkR.refl _) (.refl _)
      · rw [show openB l n b = [] by unfold openB; rw [ho, if_neg he]; rfl, show openO l n b = false by unfold openO; rw [ho, if_neg he]; rfl]
        refine Br.pos (by simp [he]) ?_
        (repeat' ((conv => whnf); first | refine Br.tt ?_ | refine Br.ff ?_ | refine Br.pos (by assumption) ?_ | refine Br.neg (by assumption) ?_ | refine Br.bself ?_ | refine Br.dself ?_ | refine Br.iself ?_ | refine Nm.mk lenC ?_ | refine Nm.mk (wrapI (by (first | omega | (simp [inR_t, inR_f] at *; omega))) (by (first | omega | (simp [inR_t, inR_f] at *; omega)))) ?_ | refine Nm.mk (wrapQ (by (first | omega | (simp [inR_t, inR_f] at *; omega))) (by (first | omega | (simp [inR_t, inR_f] at *; omega))) (by (first | omega | (simp [inR_t, inR_f] at *; omega)))) ?_ | refine Nm.mk (tmodN (by (first | omega | (simp [inR_t, inR_f] at *; omega)))) ?_ | refine Nm.mk (szS _) ?_ | refine Nm.mk (mi_eq _ _) ?_ | refine Nm.mk (ma_eq _ _) ?_ | refine Rq.mk (by first | (simp [dOwnL, dOwn] <;> fail) | (first | omega | (simp [inR_t, inR_f] at *; omega))) ?_ | refine And.intro (orderFast (by kernel_rfl)) ?_ | refine And.intro (by kernel_rfl) ?_ ))
        exact Vs.Fin.mk (yb_non _) (.refl _)
theorem is43 : FI 43 Try.f43 := ⟨⟨Try.f43, Try.func43, rfl, rfl, rfl, rfl⟩, rfl⟩
set_option maxRecDepth 20000 in
set_option maxHeartbeats 16000000 in
theorem i_OpenContent (l : List Gran) (n : Name) (b : List UInt8) (hz : l.length + sumN Gran.size l ≤ 1048576) (hn : strsSize n.parts ≤ 1048576) (hb : b.length ≤ 1048576) : FO 43 [O (sl false 2 (l.map (Gran.c false))), A (Name.c false n), Ys false b] [O (sl false 2 (l.map (Gran.c false))), A (Name.c false n), Ys false b] (YB (openB l n b) (openO l n b)) := by
  refine fok envOk mixed is43 ⟨rfl, rfl, ?_⟩
  have h9 := i_ReadVarint b 0 hb (by omega)
  rw [List.drop_zero] at h9
  cases hx : rdV b 0 0 with
  | none =>
    rw [hx] at h9
    have h8 : FO 94 [Ys false b, I 0] [Ys false b, I 0] (T3 0 0 false) := h9
    rw [show openB l n b = [] by simp [openB, openC, hx], show openO l n b = false by simp [openO, openC, hx]]
    (repeat' ((conv => whnf); first | refine Br.tt ?_ | refine Br.ff ?_ | refine Br.pos (by assumption) ?_ | refine Br.neg (by assumption) ?_ | refine Br.bself ?_ | refine Br.dself ?_ | refine Br.iself ?_ | refine Br.mk (fun _ => ?_) (fun _ => ?_) | refine Nm.mk lenC ?_ | refine Nm.mk (wrapI (by (first | omega | (simp [inR_t, inR_f] at *; omega))) (by (first | omega | (simp [inR_t, inR_f] at *; omega)))) ?_ | refine Nm.mk (wrapQ (by (first | omega | (simp [inR_t, inR_f] at *; omega))) (by (first | omega | (simp [inR_t, inR_f] at *; omega))) (by (first | omega | (simp [inR_t, inR_f] at *; omega)))) ?_ | refine Nm.mk (tmodN (by (first | omega | (simp [inR_t, inR_f] at *; omega)))) ?_ | refine Nm.mk (szS _) ?_ | refine Nm.mk (mi_eq _ _) ?_ | refine Nm.mk (ma_eq _ _) ?_ | refine Rq.mk (by first | (simp [dOwnL, dOwn] <;> fail) | (first | omega | (simp [inR_t, inR_f] at *; omega))) ?_ | refine And.intro (orderFast (by kernel_rfl)) ?_ | refine And.intro (by kernel_rfl) ?_ | refine Cl.mk (h8) ?_ | refine Cl.mk (i_GrantCovers l n hz hn) ?_ | refine Cl.pre (by simp only [shcLL_ints, shcLL_byts, shcLL_strs, Fetc.shcs, Gran.shcs, Mani.shcs, Name.shcs, Read.shcs, Segm.shcs]; rfl) ?_))
    all_goals exact Vs.Fin.mk (yb_nil _) (.refl _)
  | some xc =>
    obtain ⟨x, c⟩ := xc
    rw [hx] at h9
    have h8 : FO 94 [Ys false b, I 0] [Ys false b, I 0] (T3 x ((0 + c : Nat) : Int) true) := h9
    rw [Nat.zero_add] at h8
    have hle := rdV_le _ _ _ _ _ hx
    cases hc : l.any (covs n) with
    | false =>
      have f1 : (!l.any (covs n)) = true := by simp [hc]
      rw [show openB l n b = [] by simp [openB, openC, hx, hc], show openO l n b = false by simp [openO, openC, hx, hc]]
      (repeat' ((conv => whnf); first | refine Br.tt ?_ | refine Br.ff ?_ | refine Br.pos (by assumption) ?_ | refine Br.neg (by assumption) ?_ | refine Br.bself ?_ | refine Br.dself ?_ | refine Br.iself ?_ | refine Nm.mk lenC ?_ | refine Nm.mk (wrapI (by (first | omega | (simp [inR_t, inR_f] at *; omega))) (by (first | omega | (simp [inR_t, inR_f] at *; omega)))) ?_ | refine Nm.mk (wrapQ (by (first | omega | (simp [inR_t, inR_f] at *; omega))) (by (first | omega | (simp [inR_t, inR_f] at *; omega))) (by (first | omega | (simp [inR_t, inR_f] at *; omega)))) ?_ | refine Nm.mk (tmodN (by (first | omega | (simp [inR_t, inR_f] at *; omega)))) ?_ | refine Nm.mk (szS _) ?_ | refine Nm.mk (mi_eq _ _) ?_ | refine Nm.mk (ma_eq _ _) ?_ | refine Rq.mk (by first | (simp [dOwnL, dOwn] <;> fail) | (first | omega | (simp [inR_t, inR_f] at *; omega))) ?_ | refine And.intro (orderFast (by kernel_rfl)) ?_ | refine And.intro (by kernel_rfl) ?_ | refine Cl.mk (h8) ?_ | refine Cl.mk (i_GrantCovers l n hz hn) ?_ | refine Cl.pre (by simp only [shcLL_ints, shcLL_byts, shcLL_strs, Fetc.shcs, Gran.shcs, Mani.shcs, Name.shcs, Read.shcs, Segm.shcs]; rfl) ?_))
      exact Vs.Fin.mk (yb_nil _) (.refl _)
    | true =>
      have f1 : (!l.any (covs n)) = false := by simp [hc]
      have ho : openC l n b = if (x : Int) = mac (gsec l n) (b2i (decL (gsec l n) (b.drop c))) then some (decL (gsec l n) (b.drop c)) else none := by simp only [openC, hx, hc]; rfl
      (repeat' ((conv => whnf); first | refine Br.tt ?_ | refine Br.ff ?_ | refine Br.pos (by assumption) ?_ | refine Br.neg (by assumption) ?_ | refine Br.bself ?_ | refine Br.dself ?_ | refine Br.iself ?_ | refine Nm.mk lenC ?_ | refine Nm.mk (wrapI (by (first | omega | (simp [inR_t, inR_f] at *; omega))) (by (first | omega | (simp [inR_t, inR_f] at *; omega)))) ?_ | refine Nm.mk (wrapQ (by (first | omega | (simp [inR_t, inR_f] at *; omega))) (by (first | omega | (simp [inR_t, inR_f] at *; omega))) (by (first | omega | (simp [inR_t, inR_f] at *; omega)))) ?_ | refine Nm.mk (tmodN (by (first | omega | (simp [inR_t, inR_f] at *; omega)))) ?_ | refine Nm.mk (szS _) ?_ | refine Nm.mk (mi_eq _ _) ?_ | refine Nm.mk (ma_eq _ _) ?_ | refine Rq.mk (by first | (simp [dOwnL, dOwn] <;> fail) | (first | omega | (simp [inR_t, inR_f] at *; omega))) ?_ | refine And.intro (orderFast (by kernel_rfl)) ?_ | refine And.intro (by kernel_rfl) ?_ | refine Cl.mk (h8) ?_ | refine Cl.mk (i_GrantCovers l n hz hn) ?_ | refine Cl.mk (i_GrantedSecret l n hz hn) ?_ | refine Cl.pre (by simp only [shcLL_ints, shcLL_byts, shcLL_strs, Fetc.shcs, Gran.shcs, Mani.shcs, Name.shcs, Read.shcs, Segm.shcs]; rfl) ?_))
      refine Cl.eq (i_Decrypt (gsec l n) (b.drop c) (by simp; omega)) (by simp; rw [List.take_of_length_le (by simp)]) ?_
      (repeat' ((conv => whnf); first | refine Br.tt ?_ | refine Br.ff ?_ | refine Br.pos (by assumption) ?_ | refine Br.neg (by assumption) ?_ | refine Br.bself ?_ | refine Br.dself ?_ | refine Br.iself ?_ | refine Nm.mk lenC ?_ | refine Nm.mk (wrapI (by (first | omega | (simp [inR_t, inR_f] at *; omega))) (by (first | omega | (simp [inR_t, inR_f] at *; omega)))) ?_ | refine Nm.mk (wrapQ (by (first | omega | (simp [inR_t, inR_f] at *; omega))) (by (first | omega | (simp [inR_t, inR_f] at *; omega))) (by (first | omega | (simp [inR_t, inR_f] at *; omega)))) ?_ | refine Nm.mk (tmodN (by (first | omega | (simp [inR_t, inR_f] at *; omega)))) ?_ | refine Nm.mk (szS _) ?_ | refine Nm.mk (mi_eq _ _) ?_ | refine Nm.mk (ma_eq _ _) ?_ | refine Rq.mk (by first | (simp [dOwnL, dOwn] <;> fail) | (first | omega | (simp [inR_t, inR_f] at *; omega))) ?_ | refine And.intro (orderFast (by kernel_rfl)) ?_ | refine And.intro (by kernel_rfl) ?_ | refine Cl.mk (i_BytesToInts (decL (gsec l n) (b.drop c)) (by simp; omega)) ?_ | refine Cl.mk (i_ComputeMAC (gsec l n) (b2i (decL (gsec l n) (b.drop c))) (by rw [b2i_len]; simp; omega)) ?_ | refine Cl.pre (by simp only [shcLL_ints, shcLL_byts, shcLL_strs, Fetc.shcs, Gran.shcs, Mani.shcs, Name.shcs, Read.shcs, Segm.shcs]; rfl) ?_))
      by_cases he : (x : Int) = mac (gsec l n) (b2i (decL (gsec l n) (b.drop c)))
      · rw [show openB l n b = decL (gsec l n) (b.drop c) by unfold openB; rw [ho, if_pos he]; rfl, show openO l n b = true by unfold openO; rw [ho, if_pos he]; rfl]
        refine Br.neg (by simp [he]) ?_
        (repeat' ((conv => whnf); first | refine Br.tt ?_ | refine Br.ff ?_ | refine Br.pos (by assumption) ?_ | refine Br.neg (by assumption) ?_ | refine Br.bself ?_ | refine Br.dself ?_ | refine Br.iself ?_ | refine Nm.mk lenC ?_ | refine Nm.mk (wrapI (by (first | omega | (simp [inR_t, inR_f] at *; omega))) (by (first | omega | (simp [inR_t, inR_f] at *; omega)))) ?_ | refine Nm.mk (wrapQ (by (first | omega | (simp [inR_t, inR_f] at *; omega))) (by (first | omega | (simp [inR_t, inR_f] at *; omega))) (by (first | omega | (simp [inR_t, inR_f] at *; omega)))) ?_ | refine Nm.mk (tmodN (by (first | omega | (simp [inR_t, inR_f] at *; omega)))) ?_ | refine Nm.mk (szS _) ?_ | refine Nm.mk (mi_eq _ _) ?_ | refine Nm.mk (ma_eq _ _) ?_ | refine Rq.mk (by first | (simp [dOwnL, dOwn] <;> fail) | (first | omega | (simp [inR_t, inR_f] at *; omega))) ?_ | refine And.intro (orderFast (by kernel_rfl)) ?_ | refine And.intro (by kernel_rfl) ?_ ))
        exact Vs.Fin.mk (WkR.refl _) (.refl _)
      · rw [show openB l n b = [] by unfold openB; rw [ho, if_neg he]; rfl, show openO l n b = false by unfold openO; rw [ho, if_neg he]; rfl]
        refine Br.pos (by simp [he]) ?_
        (repeat' ((conv => whnf); first | refine Br.tt ?_ | refine Br.ff ?_ | refine Br.pos (by assumption) ?_ | refine Br.neg (by assumption) ?_ | refine Br.bself ?_ | refine Br.dself ?_ | refine Br.iself ?_ | refine Nm.mk lenC ?_ | refine Nm.mk (wrapI (by (first | omega | (simp [inR_t, inR_f] at *; omega))) (by (first | omega | (simp [inR_t, inR_f] at *; omega)))) ?_ | refine Nm.mk (wrapQ (by (first | omega | (simp [inR_t, inR_f] at *; omega))) (by (first | omega | (simp [inR_t, inR_f] at *; omega))) (by (first | omega | (simp [inR_t, inR_f] at *; omega)))) ?_ | refine Nm.mk (tmodN (by (first | omega | (simp [inR_t, inR_f] at *; omega)))) ?_ | refine Nm.mk (szS _) ?_ | refine Nm.mk (mi_eq _ _) ?_ | refine Nm.mk (ma_eq _ _) ?_ | refine Rq.mk (by first | (simp [dOwnL, dOwn] <;> fail) | (first | omega | (simp [inR_t, inR_f] at *; omega))) ?_ | refine And.intro (orderFast (by kernel_rfl)) ?_ | refine And.intro (by kernel_rfl) ?_ ))
        exact Vs.Fin.mk (yb_nil _) (.refl _)
abbrev GB (g : Gran) (b : Bool) : Arg := (.tup [(true, 2), (false, 1)], [cSs true g.name.parts, cI g.secret, cB b])
def narG (g : Gran) (s : ByteArray) : Gran := if vName ⟨g.name.parts ++ [s]⟩ then ⟨⟨g.name.parts ++ [s]⟩, dsec g.secret s⟩ else g
theorem narG_size {g : Gran} {s : ByteArray} (h : strsSize g.name.parts ≤ 1048576) (hs : s.size ≤ 1048576) : Gran.size (narG g s) ≤ 2097153 := by
  have := strs_snoc g.name.parts s
  unfold narG
  split
  · simp only [Gran.size, Name.size]; omega
  · simp only [Gran.size, Name.size]; omega
theorem is48 : FI 48 Try.f48 := ⟨⟨Try.f48, Try.func48, rfl, rfl, rfl, rfl⟩, rfl⟩
set_option maxRecDepth 20000 in
set_option maxHeartbeats 16000000 in
theorem s_NarrowGrant (g : Gran) (s : ByteArray) (hz : strsSize g.name.parts ≤ 1048576) (hs : s.size ≤ 1048576) : FO 48 [A (Gran.c false g), S s] [A (Gran.c false g), S s] (GB (narG g s) (vName ⟨g.name.parts ++ [s]⟩)) := by
  refine fok envOk mixed is48 ⟨rfl, rfl, ?_⟩
  cases hv : vName ⟨g.name.parts ++ [s]⟩ with
  | false =>
    have f1 : (!vName ⟨g.name.parts ++ [s]⟩) = true := by simp [hv]
    rw [show narG g s = g by simp [narG, hv]]
    (repeat' ((conv => whnf); first | refine Br.tt ?_ | refine Br.ff ?_ | refine Br.pos (by assumption) ?_ | refine Br.neg (by assumption) ?_ | refine Br.bself ?_ | refine Br.dself ?_ | refine Br.iself ?_ | refine Nm.mk lenC ?_ | refine Nm.mk (wrapI (by (first | omega | (simp [inR_t, inR_f] at *; omega))) (by (first | omega | (simp [inR_t, inR_f] at *; omega)))) ?_ | refine Nm.mk (wrapQ (by (first | omega | (simp [inR_t, inR_f] at *; omega))) (by (first | omega | (simp [inR_t, inR_f] at *; omega))) (by (first | omega | (simp [inR_t, inR_f] at *; omega)))) ?_ | refine Nm.mk (tmodN (by (first | omega | (simp [inR_t, inR_f] at *; omega)))) ?_ | refine Nm.mk (szS _) ?_ | refine Nm.mk (mi_eq _ _) ?_ | refine Nm.mk (ma_eq _ _) ?_ | refine Rq.mk (by first | (simp [dOwnL, dOwn] <;> fail) | (first | omega | (simp [inR_t, inR_f] at *; omega))) ?_ | refine And.intro (orderFast (by kernel_rfl)) ?_ | refine And.intro (by kernel_rfl) ?_ | refine Cl.mk (s_AppendPart g.name s hz hs) ?_ | refine Cl.mk (s_l4Copy g.name (by omega)) ?_ | refine Cl.pre (by simp only [shcLL_ints, shcLL_byts, shcLL_strs, Fetc.shcs, Gran.shcs, Mani.shcs, Name.shcs, Read.shcs, Segm.shcs]; rfl) ?_))
    refine Vs.Fin.mk (WkR.eq ?_) (.refl _)
    first | rfl | simp [hv]
  | true =>
    have f1 : (!vName ⟨g.name.parts ++ [s]⟩) = false := by simp [hv]
    rw [show narG g s = ⟨⟨g.name.parts ++ [s]⟩, dsec g.secret s⟩ by simp [narG, hv]]
    (repeat' ((conv => whnf); first | refine Br.tt ?_ | refine Br.ff ?_ | refine Br.pos (by assumption) ?_ | refine Br.neg (by assumption) ?_ | refine Br.bself ?_ | refine Br.dself ?_ | refine Br.iself ?_ | refine Nm.mk lenC ?_ | refine Nm.mk (wrapI (by (first | omega | (simp [inR_t, inR_f] at *; omega))) (by (first | omega | (simp [inR_t, inR_f] at *; omega)))) ?_ | refine Nm.mk (wrapQ (by (first | omega | (simp [inR_t, inR_f] at *; omega))) (by (first | omega | (simp [inR_t, inR_f] at *; omega))) (by (first | omega | (simp [inR_t, inR_f] at *; omega)))) ?_ | refine Nm.mk (tmodN (by (first | omega | (simp [inR_t, inR_f] at *; omega)))) ?_ | refine Nm.mk (szS _) ?_ | refine Nm.mk (mi_eq _ _) ?_ | refine Nm.mk (ma_eq _ _) ?_ | refine Rq.mk (by first | (simp [dOwnL, dOwn] <;> fail) | (first | omega | (simp [inR_t, inR_f] at *; omega))) ?_ | refine And.intro (orderFast (by kernel_rfl)) ?_ | refine And.intro (by kernel_rfl) ?_ | refine Cl.mk (s_AppendPart g.name s hz hs) ?_ | refine Cl.mk (s_DeriveSecret g.secret s hs) ?_ | refine Cl.pre (by simp only [shcLL_ints, shcLL_byts, shcLL_strs, Fetc.shcs, Gran.shcs, Mani.shcs, Name.shcs, Read.shcs, Segm.shcs]; rfl) ?_))
    refine Vs.Fin.mk (WkR.eq ?_) (.refl _)
    simp [hv, apName]
theorem is47 : FI 47 Try.f47 := ⟨⟨Try.f47, Try.func47, rfl, rfl, rfl, rfl⟩, rfl⟩
set_option maxRecDepth 20000 in
set_option maxHeartbeats 16000000 in
theorem i_NarrowGrant (g : Gran) (s : ByteArray) (hz : strsSize g.name.parts ≤ 1048576) (hs : s.size ≤ 1048576) : FO 47 [A (Gran.c false g), S s] [A (Gran.c false g), S s] (GB (narG g s) (vName ⟨g.name.parts ++ [s]⟩)) := by
  refine fok envOk mixed is47 ⟨rfl, rfl, ?_⟩
  have hl := strs_len hz
  cases hv : vName ⟨g.name.parts ++ [s]⟩ with
  | false =>
    have f1 : (!vName ⟨g.name.parts ++ [s]⟩) = true := by simp [hv]
    rw [show narG g s = g by simp [narG, hv]]
    (repeat' ((conv => whnf); first | refine Br.tt ?_ | refine Br.ff ?_ | refine Br.pos (by assumption) ?_ | refine Br.neg (by assumption) ?_ | refine Br.bself ?_ | refine Br.dself ?_ | refine Br.iself ?_ | refine Nm.mk lenC ?_ | refine Nm.mk (wrapI (by (first | omega | (simp [inR_t, inR_f] at *; omega))) (by (first | omega | (simp [inR_t, inR_f] at *; omega)))) ?_ | refine Nm.mk (wrapQ (by (first | omega | (simp [inR_t, inR_f] at *; omega))) (by (first | omega | (simp [inR_t, inR_f] at *; omega))) (by (first | omega | (simp [inR_t, inR_f] at *; omega)))) ?_ | refine Nm.mk (tmodN (by (first | omega | (simp [inR_t, inR_f] at *; omega)))) ?_ | refine Nm.mk (szS _) ?_ | refine Nm.mk (mi_eq _ _) ?_ | refine Nm.mk (ma_eq _ _) ?_ | refine Rq.mk (by first | (simp [dOwnL, dOwn] <;> fail) | (first | omega | (simp [inR_t, inR_f] at *; omega))) ?_ | refine And.intro (orderFast (by kernel_rfl)) ?_ | refine And.intro (by kernel_rfl) ?_ | refine Cl.mk (i_AppendPart g.name s hz hs) ?_ | refine Cl.mk (i_copyName g.name (by omega)) ?_ | refine Cl.pre (by simp only [shcLL_ints, shcLL_byts, shcLL_strs, Fetc.shcs, Gran.shcs, Mani.shcs, Name.shcs, Read.shcs, Segm.shcs]; rfl) ?_))
    refine Vs.Fin.mk (WkR.eq ?_) (.refl _)
    first | rfl | simp [hv]
  | true =>
    have f1 : (!vName ⟨g.name.parts ++ [s]⟩) = false := by simp [hv]
    rw [show narG g s = ⟨⟨g.name.parts ++ [s]⟩, dsec g.secret s⟩ by simp [narG, hv]]
    (repeat' ((conv => whnf); first | refine Br.tt ?_ | refine Br.ff ?_ | refine Br.pos (by assumption) ?_ | refine Br.neg (by assumption) ?_ | refine Br.bself ?_ | refine Br.dself ?_ | refine Br.iself ?_ | refine Nm.mk lenC ?_ | refine Nm.mk (wrapI (by (first | omega | (simp [inR_t, inR_f] at *; omega))) (by (first | omega | (simp [inR_t, inR_f] at *; omega)))) ?_ | refine Nm.mk (wrapQ (by (first | omega | (simp [inR_t, inR_f] at *; omega))) (by (first | omega | (simp [inR_t, inR_f] at *; omega))) (by (first | omega | (simp [inR_t, inR_f] at *; omega)))) ?_ | refine Nm.mk (tmodN (by (first | omega | (simp [inR_t, inR_f] at *; omega)))) ?_ | refine Nm.mk (szS _) ?_ | refine Nm.mk (mi_eq _ _) ?_ | refine Nm.mk (ma_eq _ _) ?_ | refine Rq.mk (by first | (simp [dOwnL, dOwn] <;> fail) | (first | omega | (simp [inR_t, inR_f] at *; omega))) ?_ | refine And.intro (orderFast (by kernel_rfl)) ?_ | refine And.intro (by kernel_rfl) ?_ | refine Cl.mk (i_AppendPart g.name s hz hs) ?_ | refine Cl.mk (i_DeriveSecret g.secret s hs) ?_ | refine Cl.pre (by simp only [shcLL_ints, shcLL_byts, shcLL_strs, Fetc.shcs, Gran.shcs, Mani.shcs, Name.shcs, Read.shcs, Segm.shcs]; rfl) ?_))
    refine Vs.Fin.mk (WkR.eq ?_) (.refl _)
    simp [hv, apName]
theorem mkGran_size {k : Int} {n : Name} (h : strsSize n.parts ≤ 1048576) : Gran.size (mkGran k n) ≤ 1048576 := h
theorem sealC_len (k : Int) (n : Name) (b : List UInt8) : (sealC k n b).length ≤ b.length + 6 := by
  have := evi_len (mac (nsec k n.parts) (b2i b))
  simp [sealC]; omega
end Go.Proofs.Ytcjolkhjjblnaaa
