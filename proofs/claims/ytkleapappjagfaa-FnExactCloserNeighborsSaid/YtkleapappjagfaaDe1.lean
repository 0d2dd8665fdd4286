/- Contracts of functions of the program: no statement of the seat is proved here. Each under the conditions that stand in it. -/
import Derived.Test.YtkleapappjagfaaDd
import Derived.Test.YtkleapappjagfaaSb
set_option linter.all false
namespace Go.Proofs.Ytkleapappjagfaa
open Go.Vs Go.Proofs
def eccT (o : List Int) : Nat → Int
  | 0 => -1
  | j + 1 => ma (eccT o j) (gI o j)
def eccL (l : List Adve) (a : Int) : Int := eccT (distL l a) 6
theorem is24 : FI 24 Try.f24 := ⟨⟨Try.f24, Try.func24, rfl, rfl, rfl, rfl⟩, rfl⟩
set_option maxRecDepth 20000 in
set_option maxHeartbeats 16000000 in
theorem s_Ecc (l : List Adve) (a : Int) (hz : l.length + sumN Adve.size l ≤ 1099511627776) : FO 24 [Al l, I a] [Al l, I a] (I (eccL l a)) := by
  refine fok envOk mixed is24 ⟨rfl, rfl, ?_⟩
  have hlen := distL_len l a
  have hc := s_Distances l a hz
  have hR : eccL l a = eccT (distL l a) 6 := rfl
  rw [hR]
  clear hR
  generalize distL l a = D at hc hlen ⊢
  (repeat' ((conv => whnf); first | refine Br.tt ?_ | refine Br.ff ?_ | refine Br.pos (by assumption) ?_ | refine Br.neg (by assumption) ?_ | refine Br.bself ?_ | refine Br.dself ?_ | refine Br.iself ?_ | refine Nm.mk lenC ?_ | refine Nm.mk (wrapI (by (first | omega | (simp [inR_t, inR_f] at *; omega))) (by (first | omega | (simp [inR_t, inR_f] at *; omega)))) ?_ | refine Nm.mk (wrapQ (by (first | omega | (simp [inR_t, inR_f] at *; omega))) (by (first | omega | (simp [inR_t, inR_f] at *; omega))) (by (first | omega | (simp [inR_t, inR_f] at *; omega)))) ?_ | refine Nm.mk (tmodN (by (first | omega | (simp [inR_t, inR_f] at *; omega)))) ?_ | refine Nm.mk (szS _) ?_ | refine Nm.mk (mi_eq _ _) ?_ | refine Nm.mk (ma_eq _ _) ?_ | refine Rq.mk (by first | (simp [dOwnL, dOwn] <;> fail) | (first | omega | (simp [inR_t, inR_f] at *; omega))) ?_ | refine And.intro (orderFast (by kernel_rfl)) ?_ | refine And.intro (by kernel_rfl) ?_ | refine Cl.mk (hc) ?_ | refine Cl.pre (by simp only [shcLL_ints, shcLL_byts, shcLL_strs, Adve.shcs, Fetc.shcs, Gran.shcs, Mani.shcs, Name.shcs, Read.shcs, Segm.shcs]; rfl) ?_))
  refine Lp.mk [.sl 5, .sl 6, .sl 7] (fun m σ => ∃ j, j + m = 6 ∧ σ = [Sa 5 (I (eccT D j)), Sa 6 (Is true D), Sa 7 (I j)]) (6) _ (WkS.weak _ _) ⟨0, rfl, (by first | rfl | (simp only [zlen, zsum, Nat.zero_mul, Int.add_zero, Int.sub_zero, List.nil_append, markG]; rfl))⟩ ?_
  rintro m τ ⟨j, hj, rfl⟩
  refine Nm.mk lenC ?_
  rw [hlen]
  refine Br.dec (fun h => ?_) (fun h => ?_)
  · (repeat' ((conv => whnf); first | refine Br.tt ?_ | refine Br.ff ?_ | refine Br.pos (by assumption) ?_ | refine Br.neg (by assumption) ?_ | refine Br.bself ?_ | refine Br.dself ?_ | refine Br.iself ?_ | refine Nm.mk lenC ?_ | refine Nm.mk (wrapI (by (first | omega | (simp [inR_t, inR_f] at *; omega))) (by (first | omega | (simp [inR_t, inR_f] at *; omega)))) ?_ | refine Nm.mk (wrapQ (by (first | omega | (simp [inR_t, inR_f] at *; omega))) (by (first | omega | (simp [inR_t, inR_f] at *; omega))) (by (first | omega | (simp [inR_t, inR_f] at *; omega)))) ?_ | refine Nm.mk (tmodN (by (first | omega | (simp [inR_t, inR_f] at *; omega)))) ?_ | refine Nm.mk (szS _) ?_ | refine Nm.mk (mi_eq _ _) ?_ | refine Nm.mk (ma_eq _ _) ?_ | refine Rq.mk (by first | (simp [dOwnL, dOwn] <;> fail) | (first | omega | (simp [inR_t, inR_f] at *; omega))) ?_ | refine And.intro (orderFast (by kernel_rfl)) ?_ | refine And.intro (by kernel_rfl) ?_ | refine El.mk (getG (by omega)) ?_ | refine Cl.mk (s_Max _ _) ?_ | refine Cl.pre (by simp only [shcLL_ints, shcLL_byts, shcLL_strs, Adve.shcs, Fetc.shcs, Gran.shcs, Mani.shcs, Name.shcs, Read.shcs, Segm.shcs]; rfl) ?_))
    refine Nx.intro (m - 1) (by omega) _ (WkS.weak _ _) ⟨j + 1, by omega, ?_⟩
    rfl
  · obtain rfl : j = 6 := by omega
    (repeat' ((conv => whnf); first | refine Br.tt ?_ | refine Br.ff ?_ | refine Br.pos (by assumption) ?_ | refine Br.neg (by assumption) ?_ | refine Br.bself ?_ | refine Br.dself ?_ | refine Br.iself ?_ | refine Nm.mk lenC ?_ | refine Nm.mk (wrapI (by (first | omega | (simp [inR_t, inR_f] at *; omega))) (by (first | omega | (simp [inR_t, inR_f] at *; omega)))) ?_ | refine Nm.mk (wrapQ (by (first | omega | (simp [inR_t, inR_f] at *; omega))) (by (first | omega | (simp [inR_t, inR_f] at *; omega))) (by (first | omega | (simp [inR_t, inR_f] at *; omega)))) ?_ | refine Nm.mk (tmodN (by (first | omega | (simp [inR_t, inR_f] at *; omega)))) ?_ | refine Nm.mk (szS _) ?_ | refine Nm.mk (mi_eq _ _) ?_ | refine Nm.mk (ma_eq _ _) ?_ | refine Rq.mk (by first | (simp [dOwnL, dOwn] <;> fail) | (first | omega | (simp [inR_t, inR_f] at *; omega))) ?_ | refine And.intro (orderFast (by kernel_rfl)) ?_ | refine And.intro (by kernel_rfl) ?_ ))
    exact Vs.Fin.mk (WkR.refl _) (.refl _)
theorem is40 : FI 40 Try.f40 := ⟨⟨Try.f40, Try.func40, rfl, rfl, rfl, rfl⟩, rfl⟩
set_option maxRecDepth 20000 in
set_option maxHeartbeats 16000000 in
theorem Max_6 (o : List Int) (hl : o.length = 6) (h0 : -1 ≤ gI o 0) : FO 40 [Is false o] [Is false o] (I (eccT o 6)) := by
  refine fok envOk mixed is40 ⟨rfl, rfl, ?_⟩
  have e1 : eccT o 1 = gI o 0 := by
    show ma (-1) (gI o 0) = _
    unfold ma; split <;> omega
  have g0 := getG (o := o) (b := 0) (by omega)
  refine Nm.mk lenC ?_
  refine Br.neg (by rw [hl]; rfl) ?_
  refine Rq.mk ⟨by omega, by simp [hl]⟩ ?_
  refine El.mk g0 ?_
  refine Lp.mk [.sl 0, .sl 3, .sl 4] (fun m σ => ∃ j, j + m = 6 ∧ 1 ≤ j ∧ σ = [Sa 0 (Is false o), Sa 3 (I (eccT o j)), Sa 4 (I j)]) (5) _ (WkS.weak _ _) ⟨1, rfl, by omega, (by first | rfl | (simp only [zlen, zsum, Nat.zero_mul, Int.add_zero, Int.sub_zero, List.nil_append, markG, e1]; rfl))⟩ ?_
  rintro m τ ⟨j, hj, hj1, rfl⟩
  refine Nm.mk lenC ?_
  rw [hl]
  refine Br.dec (fun h => ?_) (fun h => ?_)
  · (repeat' ((conv => whnf); first | refine Br.tt ?_ | refine Br.ff ?_ | refine Br.pos (by assumption) ?_ | refine Br.neg (by assumption) ?_ | refine Br.bself ?_ | refine Br.dself ?_ | refine Br.iself ?_ | refine Nm.mk lenC ?_ | refine Nm.mk (wrapI (by (first | omega | (simp [inR_t, inR_f] at *; omega))) (by (first | omega | (simp [inR_t, inR_f] at *; omega)))) ?_ | refine Nm.mk (wrapQ (by (first | omega | (simp [inR_t, inR_f] at *; omega))) (by (first | omega | (simp [inR_t, inR_f] at *; omega))) (by (first | omega | (simp [inR_t, inR_f] at *; omega)))) ?_ | refine Nm.mk (tmodN (by (first | omega | (simp [inR_t, inR_f] at *; omega)))) ?_ | refine Nm.mk (szS _) ?_ | refine Nm.mk (mi_eq _ _) ?_ | refine Nm.mk (ma_eq _ _) ?_ | refine Rq.mk (by first | (simp [dOwnL, dOwn] <;> fail) | (first | omega | (simp [inR_t, inR_f] at *; omega))) ?_ | refine And.intro (orderFast (by kernel_rfl)) ?_ | refine And.intro (by kernel_rfl) ?_ | refine El.mk (getG (by omega)) ?_ | refine Cl.pre (by simp only [shcLL_ints, shcLL_byts, shcLL_strs, Adve.shcs, Fetc.shcs, Gran.shcs, Mani.shcs, Name.shcs, Read.shcs, Segm.shcs]; rfl) ?_))
    refine Nx.intro (m - 1) (by omega) _ (WkS.weak _ _) ⟨j + 1, by omega, by omega, ?_⟩
    rfl
  · obtain rfl : j = 6 := by omega
    (repeat' ((conv => whnf); first | refine Br.tt ?_ | refine Br.ff ?_ | refine Br.pos (by assumption) ?_ | refine Br.neg (by assumption) ?_ | refine Br.bself ?_ | refine Br.dself ?_ | refine Br.iself ?_ | refine Nm.mk lenC ?_ | refine Nm.mk (wrapI (by (first | omega | (simp [inR_t, inR_f] at *; omega))) (by (first | omega | (simp [inR_t, inR_f] at *; omega)))) ?_ | refine Nm.mk (wrapQ (by (first | omega | (simp [inR_t, inR_f] at *; omega))) (by (first | omega | (simp [inR_t, inR_f] at *; omega))) (by (first | omega | (simp [inR_t, inR_f] at *; omega)))) ?_ | refine Nm.mk (tmodN (by (first | omega | (simp [inR_t, inR_f] at *; omega)))) ?_ | refine Nm.mk (szS _) ?_ | refine Nm.mk (mi_eq _ _) ?_ | refine Nm.mk (ma_eq _ _) ?_ | refine Rq.mk (by first | (simp [dOwnL, dOwn] <;> fail) | (first | omega | (simp [inR_t, inR_f] at *; omega))) ?_ | refine And.intro (orderFast (by kernel_rfl)) ?_ | refine And.intro (by kernel_rfl) ?_ ))
    exact Vs.Fin.mk (WkR.refl _) (.refl _)
theorem is25 : FI 25 Try.f25 := ⟨⟨Try.f25, Try.func25, rfl, rfl, rfl, rfl⟩, rfl⟩
set_option maxRecDepth 20000 in
set_option maxHeartbeats 16000000 in
theorem i_Ecc (l : List Adve) (a : Int) (hz : l.length + sumN Adve.size l ≤ 1099511627776) : FO 25 [Al l, I a] [Al l, I a] (I (eccL l a)) := by
  refine fok envOk mixed is25 ⟨rfl, rfl, ?_⟩
  have hr := (distL_is l a).rng 0 (by omega)
  have hc := i_Distances l a hz
  have hm := Max_6 (distL l a) (distL_len l a) hr.1
  have hR : eccL l a = eccT (distL l a) 6 := rfl
  rw [hR]
  clear hR hr
  generalize distL l a = D at hc hm ⊢
  (repeat' ((conv => whnf); first | refine Br.tt ?_ | refine Br.ff ?_ | refine Br.pos (by assumption) ?_ | refine Br.neg (by assumption) ?_ | refine Br.bself ?_ | refine Br.dself ?_ | refine Br.iself ?_ | refine Br.mk (fun _ => ?_) (fun _ => ?_) | refine Nm.mk lenC ?_ | refine Nm.mk (wrapI (by (first | omega | (simp [inR_t, inR_f] at *; omega))) (by (first | omega | (simp [inR_t, inR_f] at *; omega)))) ?_ | refine Nm.mk (wrapQ (by (first | omega | (simp [inR_t, inR_f] at *; omega))) (by (first | omega | (simp [inR_t, inR_f] at *; omega))) (by (first | omega | (simp [inR_t, inR_f] at *; omega)))) ?_ | refine Nm.mk (tmodN (by (first | omega | (simp [inR_t, inR_f] at *; omega)))) ?_ | refine Nm.mk (szS _) ?_ | refine Nm.mk (mi_eq _ _) ?_ | refine Nm.mk (ma_eq _ _) ?_ | refine Rq.mk (by first | (simp [dOwnL, dOwn] <;> fail) | (first | omega | (simp [inR_t, inR_f] at *; omega))) ?_ | refine And.intro (orderFast (by kernel_rfl)) ?_ | refine And.intro (by kernel_rfl) ?_ | refine Cl.mk (hc) ?_ | refine Cl.mk (hm) ?_ | refine Cl.pre (by simp only [shcLL_ints, shcLL_byts, shcLL_strs, Adve.shcs, Fetc.shcs, Gran.shcs, Mani.shcs, Name.shcs, Read.shcs, Segm.shcs]; rfl) ?_))
  exact ⟨WkR.refl _, .refl _⟩
end Go.Proofs.Ytkleapappjagfaa
