/- Contracts of functions of the program: no statement of the seat is proved here. Each under the conditions that stand in it. -/
import Derived.Test.YtaeehoafpmimbaaRc
set_option linter.all false
namespace Go.Proofs.Ytaeehoafpmimbaa
open Go.Vs Go.Proofs
theorem is3 : FI 3 Try.f3 := ⟨⟨Try.f3, Try.func3, rfl, rfl, rfl, rfl⟩, rfl⟩
set_option maxRecDepth 20000 in
set_option maxHeartbeats 16000000 in
theorem exMayRead (l : List Read) (hf_l : l.length ≤ 9223372036854775807 ∧ ∀ y ∈ l, Read.fits y) (hg_l : ∀ y ∈ l, Read.rng y) (w : Int) (hf_w : -9223372036854775808 ≤ w ∧ w ≤ 9223372036854775807) (n : Name) (hf_n : Name.fits n) : FO 3 [O (sl false 3 (l.map (Read.c false))), I w, A (Name.c false n)] [O (sl false 3 (l.map (Read.c false))), I w, A (Name.c false n)] (B true) := by
  refine fok envOk mixed is3 ⟨rfl, rfl, ?_⟩
  refine Cl.mk (szReaderS l (1048576) (by omega) hf_l) ?_
  (conv => whnf)
  refine Br.dec (fun h => ?_) (fun h => ?_)
  · (repeat' ((conv => whnf); first | refine Br.tt ?_ | refine Br.ff ?_ | refine Br.pos (by assumption) ?_ | refine Br.neg (by assumption) ?_ | refine Br.bself ?_ | refine Br.dself ?_ | refine Br.iself ?_ | refine Br.mk (fun _ => ?_) (fun _ => ?_) | refine Nm.mk lenC ?_ | refine Nm.mk (wrapI (by (first | omega | (simp [inR_t, inR_f] at *; omega))) (by (first | omega | (simp [inR_t, inR_f] at *; omega)))) ?_ | refine Nm.mk (wrapQ (by (first | omega | (simp [inR_t, inR_f] at *; omega))) (by (first | omega | (simp [inR_t, inR_f] at *; omega))) (by (first | omega | (simp [inR_t, inR_f] at *; omega)))) ?_ | refine Nm.mk (tmodN (by (first | omega | (simp [inR_t, inR_f] at *; omega)))) ?_ | refine Nm.mk (szS _) ?_ | refine Nm.mk (mi_eq _ _) ?_ | refine Nm.mk (ma_eq _ _) ?_ | refine Rq.mk (by first | (simp [dOwnL, dOwn] <;> fail) | (first | omega | (simp [inR_t, inR_f] at *; omega))) ?_ | refine And.intro (orderFast (by kernel_rfl)) ?_ | refine And.intro (by kernel_rfl) ?_ ))
    exact ⟨WkR.refl _, .refl _⟩
  have hz0 := szA_nn h (by omega)
  have hy0 := szA_le hz0
  have hs_l : (l.length + sumN Read.size l) ≤ 1048576 := by omega
  refine Cl.mk (szName n (szA ((l.length + sumN Read.size l)) (1048576)) (by omega) hf_n) ?_
  (conv => whnf)
  refine Br.dec (fun h => ?_) (fun h => ?_)
  · (repeat' ((conv => whnf); first | refine Br.tt ?_ | refine Br.ff ?_ | refine Br.pos (by assumption) ?_ | refine Br.neg (by assumption) ?_ | refine Br.bself ?_ | refine Br.dself ?_ | refine Br.iself ?_ | refine Br.mk (fun _ => ?_) (fun _ => ?_) | refine Nm.mk lenC ?_ | refine Nm.mk (wrapI (by (first | omega | (simp [inR_t, inR_f] at *; omega))) (by (first | omega | (simp [inR_t, inR_f] at *; omega)))) ?_ | refine Nm.mk (wrapQ (by (first | omega | (simp [inR_t, inR_f] at *; omega))) (by (first | omega | (simp [inR_t, inR_f] at *; omega))) (by (first | omega | (simp [inR_t, inR_f] at *; omega)))) ?_ | refine Nm.mk (tmodN (by (first | omega | (simp [inR_t, inR_f] at *; omega)))) ?_ | refine Nm.mk (szS _) ?_ | refine Nm.mk (mi_eq _ _) ?_ | refine Nm.mk (ma_eq _ _) ?_ | refine Rq.mk (by first | (simp [dOwnL, dOwn] <;> fail) | (first | omega | (simp [inR_t, inR_f] at *; omega))) ?_ | refine And.intro (orderFast (by kernel_rfl)) ?_ | refine And.intro (by kernel_rfl) ?_ ))
    exact ⟨WkR.refl _, .refl _⟩
  have hz1 := szA_nn h (by omega)
  have hy1 := szA_le hz1
  have hs_n : Name.size n ≤ 1048576 := by omega
  have hl_l : l.length ≤ 1048576 := by omega
  have hc_l := Read.cnts_le l
  have hc_n := Name.cntv_le n
  (repeat' ((conv => whnf); first | refine Br.tt ?_ | refine Br.ff ?_ | refine Br.pos (by assumption) ?_ | refine Br.neg (by assumption) ?_ | refine Br.bself ?_ | refine Br.dself ?_ | refine Br.iself ?_ | refine Br.neg (by simp; omega) ?_ | refine Nm.mk lenC ?_ | refine Nm.mk (wrapI (by (first | omega | (simp [inR_t, inR_f] at *; omega))) (by (first | omega | (simp [inR_t, inR_f] at *; omega)))) ?_ | refine Nm.mk (wrapQ (by (first | omega | (simp [inR_t, inR_f] at *; omega))) (by (first | omega | (simp [inR_t, inR_f] at *; omega))) (by (first | omega | (simp [inR_t, inR_f] at *; omega)))) ?_ | refine Nm.mk (tmodN (by (first | omega | (simp [inR_t, inR_f] at *; omega)))) ?_ | refine Nm.mk (szS _) ?_ | refine Nm.mk (mi_eq _ _) ?_ | refine Nm.mk (ma_eq _ _) ?_ | refine Rq.mk (by first | (simp [dOwnL, dOwn] <;> fail) | (first | omega | (simp [inR_t, inR_f] at *; omega))) ?_ | refine And.intro (orderFast (by kernel_rfl)) ?_ | refine And.intro (by kernel_rfl) ?_ | refine Cl.mk (toReaderS l (by omega)) ?_ | refine Cl.mk (toName n (by omega)) ?_ | refine Cl.mk (s_MayRead l w n (by omega) hs_n) ?_ | refine Cl.mk (i_MayRead l w n (by omega) hs_n) ?_ | refine Cl.mk (eqReaderS l l (by omega)) ?_ | refine Cl.mk (eqName n n (by omega)) ?_ | refine Cl.mk (markReaderS l (1) (by omega) (by have := Read.cnts_le l; omega) (by omega)) ?_ | refine Cl.mk (markName n (1 + (sumN Read.cnt l : Nat)) (by omega) (by have := Name.cntv_le n; omega) (by omega)) ?_ | refine Cl.pre (by simp only [shcLL_ints, shcLL_byts, shcLL_strs, Fetc.shcs, Gran.shcs, Mani.shcs, Name.shcs, Read.shcs, Segm.shcs]; rfl) ?_))
  all_goals exact ⟨WkR.refl _, .refl _⟩
theorem is4 : FI 4 Try.f4 := ⟨⟨Try.f4, Try.func4, rfl, rfl, rfl, rfl⟩, rfl⟩
set_option maxRecDepth 20000 in
set_option maxHeartbeats 16000000 in
theorem exAnyoneExcluded (a : List Read) (hf_a : a.length ≤ 9223372036854775807 ∧ ∀ y ∈ a, Read.fits y) (hg_a : ∀ y ∈ a, Read.rng y) (b : List Read) (hf_b : b.length ≤ 9223372036854775807 ∧ ∀ y ∈ b, Read.fits y) (hg_b : ∀ y ∈ b, Read.rng y) (n : Name) (hf_n : Name.fits n) : FO 4 [O (sl false 3 (a.map (Read.c false))), O (sl false 3 (b.map (Read.c false))), A (Name.c false n)] [O (sl false 3 (a.map (Read.c false))), O (sl false 3 (b.map (Read.c false))), A (Name.c false n)] (B true) := by
  refine fok envOk mixed is4 ⟨rfl, rfl, ?_⟩
  refine Cl.mk (szReaderS a (1048576) (by omega) hf_a) ?_
  (conv => whnf)
  refine Br.dec (fun h => ?_) (fun h => ?_)
  · (repeat' ((conv => whnf); first | refine Br.tt ?_ | refine Br.ff ?_ | refine Br.pos (by assumption) ?_ | refine Br.neg (by assumption) ?_ | refine Br.bself ?_ | refine Br.dself ?_ | refine Br.iself ?_ | refine Br.mk (fun _ => ?_) (fun _ => ?_) | refine Nm.mk lenC ?_ | refine Nm.mk (wrapI (by (first | omega | (simp [inR_t, inR_f] at *; omega))) (by (first | omega | (simp [inR_t, inR_f] at *; omega)))) ?_ | refine Nm.mk (wrapQ (by (first | omega | (simp [inR_t, inR_f] at *; omega))) (by (first | omega | (simp [inR_t, inR_f] at *; omega))) (by (first | omega | (simp [inR_t, inR_f] at *; omega)))) ?_ | refine Nm.mk (tmodN (by (first | omega | (simp [inR_t, inR_f] at *; omega)))) ?_ | refine Nm.mk (szS _) ?_ | refine Nm.mk (mi_eq _ _) ?_ | refine Nm.mk (ma_eq _ _) ?_ | refine Rq.mk (by first | (simp [dOwnL, dOwn] <;> fail) | (first | omega | (simp [inR_t, inR_f] at *; omega))) ?_ | refine And.intro (orderFast (by kernel_rfl)) ?_ | refine And.intro (by kernel_rfl) ?_ ))
    exact ⟨WkR.refl _, .refl _⟩
  have hz0 := szA_nn h (by omega)
  have hy0 := szA_le hz0
  have hs_a : (a.length + sumN Read.size a) ≤ 1048576 := by omega
  refine Cl.mk (szReaderS b (szA ((a.length + sumN Read.size a)) (1048576)) (by omega) hf_b) ?_
  (conv => whnf)
  refine Br.dec (fun h => ?_) (fun h => ?_)
  · (repeat' ((conv => whnf); first | refine Br.tt ?_ | refine Br.ff ?_ | refine Br.pos (by assumption) ?_ | refine Br.neg (by assumption) ?_ | refine Br.bself ?_ | refine Br.dself ?_ | refine Br.iself ?_ | refine Br.mk (fun _ => ?_) (fun _ => ?_) | refine Nm.mk lenC ?_ | refine Nm.mk (wrapI (by (first | omega | (simp [inR_t, inR_f] at *; omega))) (by (first | omega | (simp [inR_t, inR_f] at *; omega)))) ?_ | refine Nm.mk (wrapQ (by (first | omega | (simp [inR_t, inR_f] at *; omega))) (by (first | omega | (simp [inR_t, inR_f] at *; omega))) (by (first | omega | (simp [inR_t, inR_f] at *; omega)))) ?_ | refine Nm.mk (tmodN (by (first | omega | (simp [inR_t, inR_f] at *; omega)))) ?_ | refine Nm.mk (szS _) ?_ | refine Nm.mk (mi_eq _ _) ?_ | refine Nm.mk (ma_eq _ _) ?_ | refine Rq.mk (by first | (simp [dOwnL, dOwn] <;> fail) | (first | omega | (simp [inR_t, inR_f] at *; omega))) ?_ | refine And.intro (orderFast (by kernel_rfl)) ?_ | refine And.intro (by kernel_rfl) ?_ ))
    exact ⟨WkR.refl _, .refl _⟩
  have hz1 := szA_nn h (by omega)
  have hy1 := szA_le hz1
  have hs_b : (b.length + sumN Read.size b) ≤ 1048576 := by omega
  refine Cl.mk (szName n (szA ((b.length + sumN Read.size b)) (szA ((a.length + sumN Read.size a)) (1048576))) (by omega) hf_n) ?_
  (conv => whnf)
  refine Br.dec (fun h => ?_) (fun h => ?_)
  · (repeat' ((conv => whnf); first | refine Br.tt ?_ | refine Br.ff ?_ | refine Br.pos (by assumption) ?_ | refine Br.neg (by assumption) ?_ | refine Br.bself ?_ | refine Br.dself ?_ | refine Br.iself ?_ | refine Br.mk (fun _ => ?_) (fun _ => ?_) | refine Nm.mk lenC ?_ | refine Nm.mk (wrapI (by (first | omega | (simp [inR_t, inR_f] at *; omega))) (by (first | omega | (simp [inR_t, inR_f] at *; omega)))) ?_ | refine Nm.mk (wrapQ (by (first | omega | (simp [inR_t, inR_f] at *; omega))) (by (first | omega | (simp [inR_t, inR_f] at *; omega))) (by (first | omega | (simp [inR_t, inR_f] at *; omega)))) ?_ | refine Nm.mk (tmodN (by (first | omega | (simp [inR_t, inR_f] at *; omega)))) ?_ | refine Nm.mk (szS _) ?_ | refine Nm.mk (mi_eq _ _) ?_ | refine Nm.mk (ma_eq _ _) ?_ | refine Rq.mk (by first | (simp [dOwnL, dOwn] <;> fail) | (first | omega | (simp [inR_t, inR_f] at *; omega))) ?_ | refine And.intro (orderFast (by kernel_rfl)) ?_ | refine And.intro (by kernel_rfl) ?_ ))
    exact ⟨WkR.refl _, .refl _⟩
  have hz2 := szA_nn h (by omega)
  have hy2 := szA_le hz2
  have hs_n : Name.size n ≤ 1048576 := by omega
  have hl_a : a.length ≤ 1048576 := by omega
  have hl_b : b.length ≤ 1048576 := by omega
  have hs2_n : strsSize n.parts ≤ 1048576 := hs_n
  have hc_a := Read.cnts_le a
  have hc_b := Read.cnts_le b
  have hc_n := Name.cntv_le n
  (repeat' ((conv => whnf); first | refine Br.tt ?_ | refine Br.ff ?_ | refine Br.pos (by assumption) ?_ | refine Br.neg (by assumption) ?_ | refine Br.bself ?_ | refine Br.dself ?_ | refine Br.iself ?_ | refine Br.neg (by simp; omega) ?_ | refine Nm.mk lenC ?_ | refine Nm.mk (wrapI (by (first | omega | (simp [inR_t, inR_f] at *; omega))) (by (first | omega | (simp [inR_t, inR_f] at *; omega)))) ?_ | refine Nm.mk (wrapQ (by (first | omega | (simp [inR_t, inR_f] at *; omega))) (by (first | omega | (simp [inR_t, inR_f] at *; omega))) (by (first | omega | (simp [inR_t, inR_f] at *; omega)))) ?_ | refine Nm.mk (tmodN (by (first | omega | (simp [inR_t, inR_f] at *; omega)))) ?_ | refine Nm.mk (szS _) ?_ | refine Nm.mk (mi_eq _ _) ?_ | refine Nm.mk (ma_eq _ _) ?_ | refine Rq.mk (by first | (simp [dOwnL, dOwn] <;> fail) | (first | omega | (simp [inR_t, inR_f] at *; omega))) ?_ | refine And.intro (orderFast (by kernel_rfl)) ?_ | refine And.intro (by kernel_rfl) ?_ | refine Cl.mk (toReaderS a (by omega)) ?_ | refine Cl.mk (toReaderS b (by omega)) ?_ | refine Cl.mk (toName n (by omega)) ?_ | refine Cl.mk (s_AnyoneExcluded a b n hs_a (by omega) (by omega)) ?_ | refine Cl.mk (i_AnyoneExcluded a b n hs_a (by omega) (by omega)) ?_ | refine Cl.mk (eqReaderS a a (by omega)) ?_ | refine Cl.mk (eqReaderS b b (by omega)) ?_ | refine Cl.mk (eqName n n (by omega)) ?_ | refine Cl.mk (markReaderS a (1) (by omega) (by have := Read.cnts_le a; omega) (by omega)) ?_ | refine Cl.mk (markReaderS b (1 + (sumN Read.cnt a : Nat)) (by omega) (by have := Read.cnts_le b; omega) (by omega)) ?_ | refine Cl.mk (markName n (1 + (sumN Read.cnt a : Nat) + (sumN Read.cnt b : Nat)) (by omega) (by have := Name.cntv_le n; omega) (by omega)) ?_ | refine Cl.pre (by simp only [shcLL_ints, shcLL_byts, shcLL_strs, Fetc.shcs, Gran.shcs, Mani.shcs, Name.shcs, Read.shcs, Segm.shcs]; rfl) ?_))
  all_goals exact ⟨WkR.refl _, .refl _⟩
theorem is5 : FI 5 Try.f5 := ⟨⟨Try.f5, Try.func5, rfl, rfl, rfl, rfl⟩, rfl⟩
set_option maxRecDepth 20000 in
set_option maxHeartbeats 16000000 in
theorem exValidReaders (l : List Read) (hf_l : l.length ≤ 9223372036854775807 ∧ ∀ y ∈ l, Read.fits y) (hg_l : ∀ y ∈ l, Read.rng y) : FO 5 [O (sl false 3 (l.map (Read.c false)))] [O (sl false 3 (l.map (Read.c false)))] (B true) := by
  refine fok envOk mixed is5 ⟨rfl, rfl, ?_⟩
  refine Cl.mk (szReaderS l (1048576) (by omega) hf_l) ?_
  (conv => whnf)
  refine Br.dec (fun h => ?_) (fun h => ?_)
  · (repeat' ((conv => whnf); first | refine Br.tt ?_ | refine Br.ff ?_ | refine Br.pos (by assumption) ?_ | refine Br.neg (by assumption) ?_ | refine Br.bself ?_ | refine Br.dself ?_ | refine Br.iself ?_ | refine Br.mk (fun _ => ?_) (fun _ => ?_) | refine Nm.mk lenC ?_ | refine Nm.mk (wrapI (by (first | omega | (simp [inR_t, inR_f] at *; omega))) (by (first | omega | (simp [inR_t, inR_f] at *; omega)))) ?_ | refine Nm.mk (wrapQ (by (first | omega | (simp [inR_t, inR_f] at *; omega))) (by (first | omega | (simp [inR_t, inR_f] at *; omega))) (by (first | omega | (simp [inR_t, inR_f] at *; omega)))) ?_ | refine Nm.mk (tmodN (by (first | omega | (simp [inR_t, inR_f] at *; omega)))) ?_ | refine Nm.mk (szS _) ?_ | refine Nm.mk (mi_eq _ _) ?_ | refine Nm.mk (ma_eq _ _) ?_ | refine Rq.mk (by first | (simp [dOwnL, dOwn] <;> fail) | (first | omega | (simp [inR_t, inR_f] at *; omega))) ?_ | refine And.intro (orderFast (by kernel_rfl)) ?_ | refine And.intro (by kernel_rfl) ?_ ))
    exact ⟨WkR.refl _, .refl _⟩
  have hz0 := szA_nn h (by omega)
  have hy0 := szA_le hz0
  have hs_l : (l.length + sumN Read.size l) ≤ 1048576 := by omega
  have hl_l : l.length ≤ 1048576 := by omega
  (repeat' ((conv => whnf); first | refine Br.tt ?_ | refine Br.ff ?_ | refine Br.pos (by assumption) ?_ | refine Br.neg (by assumption) ?_ | refine Br.bself ?_ | refine Br.dself ?_ | refine Br.iself ?_ | refine Br.neg (by simp; omega) ?_ | refine Nm.mk lenC ?_ | refine Nm.mk (wrapI (by (first | omega | (simp [inR_t, inR_f] at *; omega))) (by (first | omega | (simp [inR_t, inR_f] at *; omega)))) ?_ | refine Nm.mk (wrapQ (by (first | omega | (simp [inR_t, inR_f] at *; omega))) (by (first | omega | (simp [inR_t, inR_f] at *; omega))) (by (first | omega | (simp [inR_t, inR_f] at *; omega)))) ?_ | refine Nm.mk (tmodN (by (first | omega | (simp [inR_t, inR_f] at *; omega)))) ?_ | refine Nm.mk (szS _) ?_ | refine Nm.mk (mi_eq _ _) ?_ | refine Nm.mk (ma_eq _ _) ?_ | refine Rq.mk (by first | (simp [dOwnL, dOwn] <;> fail) | (first | omega | (simp [inR_t, inR_f] at *; omega))) ?_ | refine And.intro (orderFast (by kernel_rfl)) ?_ | refine And.intro (by kernel_rfl) ?_ | refine Cl.mk (toReaderS l (by omega)) ?_ | refine Cl.mk (s_ValidReaders l (by omega)) ?_ | refine Cl.mk (i_ValidReaders l (by omega)) ?_ | refine Cl.mk (eqReaderS l l (by omega)) ?_ | refine Cl.mk (markReaderS l (1) (by omega) (by have := Read.cnts_le l; omega) (by omega)) ?_ | refine Cl.pre (by simp only [shcLL_ints, shcLL_byts, shcLL_strs, Fetc.shcs, Gran.shcs, Mani.shcs, Name.shcs, Read.shcs, Segm.shcs]; rfl) ?_))
  all_goals exact ⟨WkR.refl _, .refl _⟩
theorem is6 : FI 6 Try.f6 := ⟨⟨Try.f6, Try.func6, rfl, rfl, rfl, rfl⟩, rfl⟩
set_option maxRecDepth 20000 in
set_option maxHeartbeats 16000000 in
theorem exReadersOf (l : List Read) (hf_l : l.length ≤ 9223372036854775807 ∧ ∀ y ∈ l, Read.fits y) (hg_l : ∀ y ∈ l, Read.rng y) (n : Name) (hf_n : Name.fits n) : FO 6 [O (sl false 3 (l.map (Read.c false))), A (Name.c false n)] [O (sl false 3 (l.map (Read.c false))), A (Name.c false n)] (B true) := by
  refine fok envOk mixed is6 ⟨rfl, rfl, ?_⟩
  refine Cl.mk (szReaderS l (1048576) (by omega) hf_l) ?_
  (conv => whnf)
  refine Br.dec (fun h => ?_) (fun h => ?_)
  · (repeat' ((conv => whnf); first | refine Br.tt ?_ | refine Br.ff ?_ | refine Br.pos (by assumption) ?_ | refine Br.neg (by assumption) ?_ | refine Br.bself ?_ | refine Br.dself ?_ | refine Br.iself ?_ | refine Br.mk (fun _ => ?_) (fun _ => ?_) | refine Nm.mk lenC ?_ | refine Nm.mk (wrapI (by (first | omega | (simp [inR_t, inR_f] at *; omega))) (by (first | omega | (simp [inR_t, inR_f] at *; omega)))) ?_ | refine Nm.mk (wrapQ (by (first | omega | (simp [inR_t, inR_f] at *; omega))) (by (first | omega | (simp [inR_t, inR_f] at *; omega))) (by (first | omega | (simp [inR_t, inR_f] at *; omega)))) ?_ | refine Nm.mk (tmodN (by (first | omega | (simp [inR_t, inR_f] at *; omega)))) ?_ | refine Nm.mk (szS _) ?_ | refine Nm.mk (mi_eq _ _) ?_ | refine Nm.mk (ma_eq _ _) ?_ | refine Rq.mk (by first | (simp [dOwnL, dOwn] <;> fail) | (first | omega | (simp [inR_t, inR_f] at *; omega))) ?_ | refine And.intro (orderFast (by kernel_rfl)) ?_ | refine And.intro (by kernel_rfl) ?_ ))
    exact ⟨WkR.refl _, .refl _⟩
  have hz0 := szA_nn h (by omega)
  have hy0 := szA_le hz0
  have hs_l : (l.length + sumN Read.size l) ≤ 1048576 := by omega
  refine Cl.mk (szName n (szA ((l.length + sumN Read.size l)) (1048576)) (by omega) hf_n) ?_
  (conv => whnf)
  refine Br.dec (fun h => ?_) (fun h => ?_)
  · (repeat' ((conv => whnf); first | refine Br.tt ?_ | refine Br.ff ?_ | refine Br.pos (by assumption) ?_ | refine Br.neg (by assumption) ?_ | refine Br.bself ?_ | refine Br.dself ?_ | refine Br.iself ?_ | refine Br.mk (fun _ => ?_) (fun _ => ?_) | refine Nm.mk lenC ?_ | refine Nm.mk (wrapI (by (first | omega | (simp [inR_t, inR_f] at *; omega))) (by (first | omega | (simp [inR_t, inR_f] at *; omega)))) ?_ | refine Nm.mk (wrapQ (by (first | omega | (simp [inR_t, inR_f] at *; omega))) (by (first | omega | (simp [inR_t, inR_f] at *; omega))) (by (first | omega | (simp [inR_t, inR_f] at *; omega)))) ?_ | refine Nm.mk (tmodN (by (first | omega | (simp [inR_t, inR_f] at *; omega)))) ?_ | refine Nm.mk (szS _) ?_ | refine Nm.mk (mi_eq _ _) ?_ | refine Nm.mk (ma_eq _ _) ?_ | refine Rq.mk (by first | (simp [dOwnL, dOwn] <;> fail) | (first | omega | (simp [inR_t, inR_f] at *; omega))) ?_ | refine And.intro (orderFast (by kernel_rfl)) ?_ | refine And.intro (by kernel_rfl) ?_ ))
    exact ⟨WkR.refl _, .refl _⟩
  have hz1 := szA_nn h (by omega)
  have hy1 := szA_le hz1
  have hs_n : Name.size n ≤ 1048576 := by omega
  have hl_l : l.length ≤ 1048576 := by omega
  have hc_l := Read.cnts_le l
  have hc_n := Name.cntv_le n
  have hr0 := rdsT_len l n 6
  (repeat' ((conv => whnf); first | refine Br.tt ?_ | refine Br.ff ?_ | refine Br.pos (by assumption) ?_ | refine Br.neg (by assumption) ?_ | refine Br.bself ?_ | refine Br.dself ?_ | refine Br.iself ?_ | refine Br.neg (by simp; omega) ?_ | refine Nm.mk lenC ?_ | refine Nm.mk (wrapI (by (first | omega | (simp [inR_t, inR_f] at *; omega))) (by (first | omega | (simp [inR_t, inR_f] at *; omega)))) ?_ | refine Nm.mk (wrapQ (by (first | omega | (simp [inR_t, inR_f] at *; omega))) (by (first | omega | (simp [inR_t, inR_f] at *; omega))) (by (first | omega | (simp [inR_t, inR_f] at *; omega)))) ?_ | refine Nm.mk (tmodN (by (first | omega | (simp [inR_t, inR_f] at *; omega)))) ?_ | refine Nm.mk (szS _) ?_ | refine Nm.mk (mi_eq _ _) ?_ | refine Nm.mk (ma_eq _ _) ?_ | refine Rq.mk (by first | (simp [dOwnL, dOwn] <;> fail) | (first | omega | (simp [inR_t, inR_f] at *; omega))) ?_ | refine And.intro (orderFast (by kernel_rfl)) ?_ | refine And.intro (by kernel_rfl) ?_ | refine Cl.mk (toReaderS l (by omega)) ?_ | refine Cl.mk (toName n (by omega)) ?_ | refine Cl.mk (s_ReadersOf l n hs_l hs_n) ?_ | refine Cl.mk (i_ReadersOf l n hs_l hs_n) ?_ | refine Cl.mk (eqIntS (rdsT l n 6) (rdsT l n 6) (by omega)) ?_ | refine Cl.mk (eqReaderS l l (by omega)) ?_ | refine Cl.mk (eqName n n (by omega)) ?_ | refine Cl.mk (markReaderS l (1) (by omega) (by have := Read.cnts_le l; omega) (by omega)) ?_ | refine Cl.mk (markName n (1 + (sumN Read.cnt l : Nat)) (by omega) (by have := Name.cntv_le n; omega) (by omega)) ?_ | refine Cl.mk (markIntS (rdsT l n 6) (1) (by omega) (by omega)) ?_ | refine Cl.mk (heldIntS (rdsT l n 6) (1) (by omega) (by omega)) ?_ | refine Cl.pre (by simp only [shcLL_ints, shcLL_byts, shcLL_strs, Fetc.shcs, Gran.shcs, Mani.shcs, Name.shcs, Read.shcs, Segm.shcs]; rfl) ?_))
  all_goals exact ⟨WkR.refl _, .refl _⟩
end Go.Proofs.Ytaeehoafpmimbaa
