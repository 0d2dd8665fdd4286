/- Contracts of functions of the program: no statement of the seat is proved here. Each under the conditions that stand in it. -/
import Derived.Test.YtkleapappjagfaaDe
set_option linter.all false
namespace Go.Proofs.Ytkleapappjagfaa
open Go.Vs Go.Proofs
theorem is7 : FI 7 Try.f7 := ⟨⟨Try.f7, Try.func7, rfl, rfl, rfl, rfl⟩, rfl⟩
set_option maxRecDepth 20000 in
set_option maxHeartbeats 16000000 in
theorem exEccentricity (l : List Adve) (hf_l : l.length ≤ 9223372036854775807 ∧ ∀ y ∈ l, Adve.fits y) (hg_l : ∀ y ∈ l, Adve.rng y) (a : Int) (hf_a : -9223372036854775808 ≤ a ∧ a ≤ 9223372036854775807) : FO 7 [O (sl false 4 (l.map (Adve.c false))), I a] [O (sl false 4 (l.map (Adve.c false))), I a] (B true) := by
  refine fok envOk mixed is7 ⟨rfl, rfl, ?_⟩
  refine Cl.mk (szAdvertisementS l (1048576) (by omega) hf_l) ?_
  (conv => whnf)
  refine Br.dec (fun h => ?_) (fun h => ?_)
  · (repeat' ((conv => whnf); first | refine Br.tt ?_ | refine Br.ff ?_ | refine Br.pos (by assumption) ?_ | refine Br.neg (by assumption) ?_ | refine Br.bself ?_ | refine Br.dself ?_ | refine Br.iself ?_ | refine Br.mk (fun _ => ?_) (fun _ => ?_) | refine Nm.mk lenC ?_ | refine Nm.mk (wrapI (by (first | omega | (simp [inR_t, inR_f] at *; omega))) (by (first | omega | (simp [inR_t, inR_f] at *; omega)))) ?_ | refine Nm.mk (wrapQ (by (first | omega | (simp [inR_t, inR_f] at *; omega))) (by (first | omega | (simp [inR_t, inR_f] at *; omega))) (by (first | omega | (simp [inR_t, inR_f] at *; omega)))) ?_ | refine Nm.mk (tmodN (by (first | omega | (simp [inR_t, inR_f] at *; omega)))) ?_ | refine Nm.mk (szS _) ?_ | refine Nm.mk (mi_eq _ _) ?_ | refine Nm.mk (ma_eq _ _) ?_ | refine Rq.mk (by first | (simp [dOwnL, dOwn] <;> fail) | (first | omega | (simp [inR_t, inR_f] at *; omega))) ?_ | refine And.intro (orderFast (by kernel_rfl)) ?_ | refine And.intro (by kernel_rfl) ?_ ))
    exact ⟨WkR.refl _, .refl _⟩
  have hz0 := szA_nn h (by omega)
  have hy0 := szA_le hz0
  have hs_l : (l.length + sumN Adve.size l) ≤ 1048576 := by omega
  have hl_l : l.length ≤ 1048576 := by omega
  have hcs := s_Ecc l a (by omega)
  have hci := i_Ecc l a (by omega)
  generalize eccL l a = D at hcs hci
  (repeat' ((conv => whnf); first | refine Br.tt ?_ | refine Br.ff ?_ | refine Br.pos (by assumption) ?_ | refine Br.neg (by assumption) ?_ | refine Br.bself ?_ | refine Br.dself ?_ | refine Br.iself ?_ | refine Br.neg (by simp; omega) ?_ | refine Nm.mk lenC ?_ | refine Nm.mk (wrapI (by (first | omega | (simp [inR_t, inR_f] at *; omega))) (by (first | omega | (simp [inR_t, inR_f] at *; omega)))) ?_ | refine Nm.mk (wrapQ (by (first | omega | (simp [inR_t, inR_f] at *; omega))) (by (first | omega | (simp [inR_t, inR_f] at *; omega))) (by (first | omega | (simp [inR_t, inR_f] at *; omega)))) ?_ | refine Nm.mk (tmodN (by (first | omega | (simp [inR_t, inR_f] at *; omega)))) ?_ | refine Nm.mk (szS _) ?_ | refine Nm.mk (mi_eq _ _) ?_ | refine Nm.mk (ma_eq _ _) ?_ | refine Rq.mk (by first | (simp [dOwnL, dOwn] <;> fail) | (first | omega | (simp [inR_t, inR_f] at *; omega))) ?_ | refine And.intro (orderFast (by kernel_rfl)) ?_ | refine And.intro (by kernel_rfl) ?_ | refine Cl.mk (toAdvertisementS l (by omega)) ?_ | refine Cl.mk (hcs) ?_ | refine Cl.mk (hci) ?_ | refine Cl.mk (eqAdvertisementS l l (by omega)) ?_ | refine Cl.mk (markAdvertisementS l (1) (by omega) (by have := Adve.cnts_le l; omega) (by omega)) ?_ | refine Cl.pre (by simp only [shcLL_ints, shcLL_byts, shcLL_strs, Adve.shcs, Fetc.shcs, Gran.shcs, Mani.shcs, Name.shcs, Read.shcs, Segm.shcs]; rfl) ?_))
  all_goals exact ⟨WkR.refl _, .refl _⟩
theorem is8 : FI 8 Try.f8 := ⟨⟨Try.f8, Try.func8, rfl, rfl, rfl, rfl⟩, rfl⟩
set_option maxRecDepth 20000 in
set_option maxHeartbeats 16000000 in
theorem exCloserNeighbors (l : List Adve) (hf_l : l.length ≤ 9223372036854775807 ∧ ∀ y ∈ l, Adve.fits y) (hg_l : ∀ y ∈ l, Adve.rng y) (a : Int) (hf_a : -9223372036854775808 ≤ a ∧ a ≤ 9223372036854775807) (b : Int) (hf_b : -9223372036854775808 ≤ b ∧ b ≤ 9223372036854775807) : FO 8 [O (sl false 4 (l.map (Adve.c false))), I a, I b] [O (sl false 4 (l.map (Adve.c false))), I a, I b] (B true) := by
  refine fok envOk mixed is8 ⟨rfl, rfl, ?_⟩
  refine Cl.mk (szAdvertisementS l (1048576) (by omega) hf_l) ?_
  (conv => whnf)
  refine Br.dec (fun h => ?_) (fun h => ?_)
  · (repeat' ((conv => whnf); first | refine Br.tt ?_ | refine Br.ff ?_ | refine Br.pos (by assumption) ?_ | refine Br.neg (by assumption) ?_ | refine Br.bself ?_ | refine Br.dself ?_ | refine Br.iself ?_ | refine Br.mk (fun _ => ?_) (fun _ => ?_) | refine Nm.mk lenC ?_ | refine Nm.mk (wrapI (by (first | omega | (simp [inR_t, inR_f] at *; omega))) (by (first | omega | (simp [inR_t, inR_f] at *; omega)))) ?_ | refine Nm.mk (wrapQ (by (first | omega | (simp [inR_t, inR_f] at *; omega))) (by (first | omega | (simp [inR_t, inR_f] at *; omega))) (by (first | omega | (simp [inR_t, inR_f] at *; omega)))) ?_ | refine Nm.mk (tmodN (by (first | omega | (simp [inR_t, inR_f] at *; omega)))) ?_ | refine Nm.mk (szS _) ?_ | refine Nm.mk (mi_eq _ _) ?_ | refine Nm.mk (ma_eq _ _) ?_ | refine Rq.mk (by first | (simp [dOwnL, dOwn] <;> fail) | (first | omega | (simp [inR_t, inR_f] at *; omega))) ?_ | refine And.intro (orderFast (by kernel_rfl)) ?_ | refine And.intro (by kernel_rfl) ?_ ))
    exact ⟨WkR.refl _, .refl _⟩
  have hz0 := szA_nn h (by omega)
  have hy0 := szA_le hz0
  have hs_l : (l.length + sumN Adve.size l) ≤ 1048576 := by omega
  have hl_l : l.length ≤ 1048576 := by omega
  have hr0 := cloT_len l a b 6
  have hcs := s_Closer l a b (by omega)
  have hci := i_Closer l a b (by omega)
  have hr7 := cloT_len l a b 6
  generalize cloT l a b 6 = D at *
  (repeat' ((conv => whnf); first | refine Br.tt ?_ | refine Br.ff ?_ | refine Br.pos (by assumption) ?_ | refine Br.neg (by assumption) ?_ | refine Br.bself ?_ | refine Br.dself ?_ | refine Br.iself ?_ | refine Br.neg (by simp; omega) ?_ | refine Nm.mk lenC ?_ | refine Nm.mk (wrapI (by (first | omega | (simp [inR_t, inR_f] at *; omega))) (by (first | omega | (simp [inR_t, inR_f] at *; omega)))) ?_ | refine Nm.mk (wrapQ (by (first | omega | (simp [inR_t, inR_f] at *; omega))) (by (first | omega | (simp [inR_t, inR_f] at *; omega))) (by (first | omega | (simp [inR_t, inR_f] at *; omega)))) ?_ | refine Nm.mk (tmodN (by (first | omega | (simp [inR_t, inR_f] at *; omega)))) ?_ | refine Nm.mk (szS _) ?_ | refine Nm.mk (mi_eq _ _) ?_ | refine Nm.mk (ma_eq _ _) ?_ | refine Rq.mk (by first | (simp [dOwnL, dOwn] <;> fail) | (first | omega | (simp [inR_t, inR_f] at *; omega))) ?_ | refine And.intro (orderFast (by kernel_rfl)) ?_ | refine And.intro (by kernel_rfl) ?_ | refine Cl.mk (toAdvertisementS l (by omega)) ?_ | refine Cl.mk (hcs) ?_ | refine Cl.mk (hci) ?_ | refine Cl.mk (eqIntS D D (by omega)) ?_ | refine Cl.mk (eqAdvertisementS l l (by omega)) ?_ | refine Cl.mk (markAdvertisementS l (1) (by omega) (by have := Adve.cnts_le l; omega) (by omega)) ?_ | refine Cl.mk (markIntS D (1) (by omega) (by omega)) ?_ | refine Cl.mk (heldIntS D (1) (by omega) (by omega)) ?_ | refine Cl.pre (by simp only [shcLL_ints, shcLL_byts, shcLL_strs, Adve.shcs, Fetc.shcs, Gran.shcs, Mani.shcs, Name.shcs, Read.shcs, Segm.shcs]; rfl) ?_))
  all_goals exact ⟨WkR.refl _, .refl _⟩
end Go.Proofs.Ytkleapappjagfaa
