/- Contracts of functions of the program: no statement of the seat is proved here. Each under the conditions that stand in it. -/
import Derived.Test.YtckjlakfnpapgaaGreatDoorPc
import Derived.Test.YtckjlakfnpapgaaGreatDoorFk
set_option linter.all false
namespace Go.Proofs.YtckjlakfnpapgaaGreatDoor
open Go.Vs Go.Proofs
theorem is3 : FI 3 Tryz.f3 := ⟨⟨Tryz.f3, Tryz.func3, rfl, rfl, rfl, rfl⟩, rfl⟩
set_option maxRecDepth 20000 in
set_option maxHeartbeats 16000000 in
theorem exPublishSegments (l : List Keyy) (hf_l : l.length ≤ 9223372036854775807 ∧ ∀ y ∈ l, Keyy.fits y) (hg_l : ∀ y ∈ l, Keyy.rng y) (key : Name) (hf_key : Name.fits key) (n : Name) (hf_n : Name.fits n) (b : List UInt8) (hf_b : b.length ≤ 9223372036854775807) (size : Int) (hf_size : -9223372036854775808 ≤ size ∧ size ≤ 9223372036854775807) (till : Int) (hf_till : -9223372036854775808 ≤ till ∧ till ≤ 9223372036854775807) : FO 3 [O (sl false 2 (l.map (Keyy.c false))), A (Name.c false key), A (Name.c false n), O (cYs false b), I size, I till] [O (sl false 2 (l.map (Keyy.c false))), A (Name.c false key), A (Name.c false n), O (cYs false b), I size, I till] (B true) := by
  refine fok envOk mixed is3 ⟨rfl, rfl, ?_⟩
  refine Nm.mk lenC ?_
  refine Br.dec (fun h => ?_) (fun h => ?_)
  · (repeat' ((conv => whnf); first | refine Br.tt ?_ | refine Br.ff ?_ | refine Br.pos (by assumption) ?_ | refine Br.neg (by assumption) ?_ | refine Br.bself ?_ | refine Br.dself ?_ | refine Br.iself ?_ | refine Br.mk (fun _ => ?_) (fun _ => ?_) | refine Nm.mk lenC ?_ | refine Nm.mk (wrapI (by (first | omega | (simp [inR_t, inR_f] at *; omega))) (by (first | omega | (simp [inR_t, inR_f] at *; omega)))) ?_ | refine Nm.mk (wrapQ (by (first | omega | (simp [inR_t, inR_f] at *; omega))) (by (first | omega | (simp [inR_t, inR_f] at *; omega))) (by (first | omega | (simp [inR_t, inR_f] at *; omega)))) ?_ | refine Nm.mk (tmodN (by (first | omega | (simp [inR_t, inR_f] at *; omega)))) ?_ | refine Nm.mk (szS _) ?_ | refine Nm.mk (mi_eq _ _) ?_ | refine Nm.mk (ma_eq _ _) ?_ | refine Rq.mk (by first | (simp [dOwnL, dOwn] <;> fail) | (first | omega | (simp [inR_t, inR_f] at *; omega))) ?_ | refine And.intro (orderFast (by kernel_rfl)) ?_ | refine And.intro (by kernel_rfl) ?_ ))
    exact ⟨WkR.refl _, .refl _⟩
  have hs_b : b.length ≤ 1048576 := by omega
  refine Cl.mk (szKeyS l (1048576) (by omega) hf_l) ?_
  (conv => whnf)
  refine Br.dec (fun h => ?_) (fun h => ?_)
  · (repeat' ((conv => whnf); first | refine Br.tt ?_ | refine Br.ff ?_ | refine Br.pos (by assumption) ?_ | refine Br.neg (by assumption) ?_ | refine Br.bself ?_ | refine Br.dself ?_ | refine Br.iself ?_ | refine Br.mk (fun _ => ?_) (fun _ => ?_) | refine Nm.mk lenC ?_ | refine Nm.mk (wrapI (by (first | omega | (simp [inR_t, inR_f] at *; omega))) (by (first | omega | (simp [inR_t, inR_f] at *; omega)))) ?_ | refine Nm.mk (wrapQ (by (first | omega | (simp [inR_t, inR_f] at *; omega))) (by (first | omega | (simp [inR_t, inR_f] at *; omega))) (by (first | omega | (simp [inR_t, inR_f] at *; omega)))) ?_ | refine Nm.mk (tmodN (by (first | omega | (simp [inR_t, inR_f] at *; omega)))) ?_ | refine Nm.mk (szS _) ?_ | refine Nm.mk (mi_eq _ _) ?_ | refine Nm.mk (ma_eq _ _) ?_ | refine Rq.mk (by first | (simp [dOwnL, dOwn] <;> fail) | (first | omega | (simp [inR_t, inR_f] at *; omega))) ?_ | refine And.intro (orderFast (by kernel_rfl)) ?_ | refine And.intro (by kernel_rfl) ?_ ))
    exact ⟨WkR.refl _, .refl _⟩
  have hz0 := szA_nn h (by omega)
  have hy0 := szA_le hz0
  have hs_l : (l.length + sumN Keyy.size l) ≤ 1048576 := by omega
  refine Cl.mk (szName key (szA ((l.length + sumN Keyy.size l)) (1048576)) (by omega) hf_key) ?_
  (conv => whnf)
  refine Br.dec (fun h => ?_) (fun h => ?_)
  · (repeat' ((conv => whnf); first | refine Br.tt ?_ | refine Br.ff ?_ | refine Br.pos (by assumption) ?_ | refine Br.neg (by assumption) ?_ | refine Br.bself ?_ | refine Br.dself ?_ | refine Br.iself ?_ | refine Br.mk (fun _ => ?_) (fun _ => ?_) | refine Nm.mk lenC ?_ | refine Nm.mk (wrapI (by (first | omega | (simp [inR_t, inR_f] at *; omega))) (by (first | omega | (simp [inR_t, inR_f] at *; omega)))) ?_ | refine Nm.mk (wrapQ (by (first | omega | (simp [inR_t, inR_f] at *; omega))) (by (first | omega | (simp [inR_t, inR_f] at *; omega))) (by (first | omega | (simp [inR_t, inR_f] at *; omega)))) ?_ | refine Nm.mk (tmodN (by (first | omega | (simp [inR_t, inR_f] at *; omega)))) ?_ | refine Nm.mk (szS _) ?_ | refine Nm.mk (mi_eq _ _) ?_ | refine Nm.mk (ma_eq _ _) ?_ | refine Rq.mk (by first | (simp [dOwnL, dOwn] <;> fail) | (first | omega | (simp [inR_t, inR_f] at *; omega))) ?_ | refine And.intro (orderFast (by kernel_rfl)) ?_ | refine And.intro (by kernel_rfl) ?_ ))
    exact ⟨WkR.refl _, .refl _⟩
  have hz1 := szA_nn h (by omega)
  have hy1 := szA_le hz1
  have hs_key : Name.size key ≤ 1048576 := by omega
  refine Cl.mk (szName n (szA (Name.size key) (szA ((l.length + sumN Keyy.size l)) (1048576))) (by omega) hf_n) ?_
  (conv => whnf)
  refine Br.dec (fun h => ?_) (fun h => ?_)
  · (repeat' ((conv => whnf); first | refine Br.tt ?_ | refine Br.ff ?_ | refine Br.pos (by assumption) ?_ | refine Br.neg (by assumption) ?_ | refine Br.bself ?_ | refine Br.dself ?_ | refine Br.iself ?_ | refine Br.mk (fun _ => ?_) (fun _ => ?_) | refine Nm.mk lenC ?_ | refine Nm.mk (wrapI (by (first | omega | (simp [inR_t, inR_f] at *; omega))) (by (first | omega | (simp [inR_t, inR_f] at *; omega)))) ?_ | refine Nm.mk (wrapQ (by (first | omega | (simp [inR_t, inR_f] at *; omega))) (by (first | omega | (simp [inR_t, inR_f] at *; omega))) (by (first | omega | (simp [inR_t, inR_f] at *; omega)))) ?_ | refine Nm.mk (tmodN (by (first | omega | (simp [inR_t, inR_f] at *; omega)))) ?_ | refine Nm.mk (szS _) ?_ | refine Nm.mk (mi_eq _ _) ?_ | refine Nm.mk (ma_eq _ _) ?_ | refine Rq.mk (by first | (simp [dOwnL, dOwn] <;> fail) | (first | omega | (simp [inR_t, inR_f] at *; omega))) ?_ | refine And.intro (orderFast (by kernel_rfl)) ?_ | refine And.intro (by kernel_rfl) ?_ ))
    exact ⟨WkR.refl _, .refl _⟩
  have hz2 := szA_nn h (by omega)
  have hy2 := szA_le hz2
  have hs_n : Name.size n ≤ 1048576 := by omega
  have hl_l : l.length ≤ 1048576 := by omega
  have hs2_key : strsSize key.parts ≤ 1048576 := hs_key
  have hs2_n : strsSize n.parts ≤ 1048576 := hs_n
  have hc_l := Keyy.cnts_le l
  have hc_key := Name.cntv_le key
  have hc_n := Name.cntv_le n
  have hr0 := pubR_size l key n b size till hs_b
  (repeat' ((conv => whnf); first | refine Br.tt ?_ | refine Br.ff ?_ | refine Br.pos (by assumption) ?_ | refine Br.neg (by assumption) ?_ | refine Br.bself ?_ | refine Br.dself ?_ | refine Br.iself ?_ | refine Br.neg (by simp; omega) ?_ | refine Nm.mk lenC ?_ | refine Nm.mk (wrapI (by (first | omega | (simp [inR_t, inR_f] at *; omega))) (by (first | omega | (simp [inR_t, inR_f] at *; omega)))) ?_ | refine Nm.mk (wrapQ (by (first | omega | (simp [inR_t, inR_f] at *; omega))) (by (first | omega | (simp [inR_t, inR_f] at *; omega))) (by (first | omega | (simp [inR_t, inR_f] at *; omega)))) ?_ | refine Nm.mk (tmodN (by (first | omega | (simp [inR_t, inR_f] at *; omega)))) ?_ | refine Nm.mk (szS _) ?_ | refine Nm.mk (mi_eq _ _) ?_ | refine Nm.mk (ma_eq _ _) ?_ | refine Rq.mk (by first | (simp [dOwnL, dOwn] <;> fail) | (first | omega | (simp [inR_t, inR_f] at *; omega))) ?_ | refine And.intro (orderFast (by kernel_rfl)) ?_ | refine And.intro (by kernel_rfl) ?_ | refine Cl.mk (toKeyS l (by omega)) ?_ | refine Cl.mk (toName key (by omega)) ?_ | refine Cl.mk (toName n (by omega)) ?_ | refine Cl.mk (toByteS b (by omega)) ?_ | refine Cl.mk (s_PublishSegments l key n b size till (by omega) (by omega) (by omega) hs_b) ?_ | refine Cl.mk (i_PublishSegments l key n b size till (by omega) (by omega) (by omega) hs_b) ?_ | refine Cl.mk (eqDataS (pubR l key n b (mkMani b size) till) (pubR l key n b (mkMani b size) till) (by omega)) ?_ | refine Cl.mk (eqKeyS l l (by omega)) ?_ | refine Cl.mk (eqName key key (by omega)) ?_ | refine Cl.mk (eqName n n (by omega)) ?_ | refine Cl.mk (eqByteS b b (by omega)) ?_ | refine Cl.mk (markKeyS l (1) (by omega) (by have := Keyy.cnts_le l; omega) (by omega)) ?_ | refine Cl.mk (markName key (1 + (sumN Keyy.cnt l : Nat)) (by omega) (by have := Name.cntv_le key; omega) (by omega)) ?_ | refine Cl.mk (markName n (1 + (sumN Keyy.cnt l : Nat) + (Name.cntv key : Nat)) (by omega) (by have := Name.cntv_le n; omega) (by omega)) ?_ | refine Cl.mk (markByteS b (1 + (sumN Keyy.cnt l : Nat) + (Name.cntv key : Nat) + (Name.cntv n : Nat)) (by omega) (by omega)) ?_ | refine Cl.mk (markDataS (pubR l key n b (mkMani b size) till) (1) (by omega) (by have := Data.cnts_le (pubR l key n b (mkMani b size) till); omega) (by omega)) ?_ | refine Cl.mk (heldDataS (pubR l key n b (mkMani b size) till) (1) (by omega) (by have := Data.cnts_le (pubR l key n b (mkMani b size) till); omega) (by omega)) ?_ | refine Cl.pre (by simp only [shcLL_ints, shcLL_byts, shcLL_strs, Data.shcs, Fetc.shcs, Gran.shcs, Keyy.shcs, Mani.shcs, Name.shcs, Read.shcs, Rout.shcs, Segm.shcs, TEnt.shcs]; rfl) ?_))
  all_goals exact ⟨WkR.refl _, .refl _⟩
end Go.Proofs.YtckjlakfnpapgaaGreatDoor
