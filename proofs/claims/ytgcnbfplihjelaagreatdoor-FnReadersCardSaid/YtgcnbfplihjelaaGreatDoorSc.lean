/- Contracts of functions of the program: no statement of the seat is proved here. Each under the conditions that stand in it. -/
import Derived.Test.YtgcnbfplihjelaaGreatDoorSa
import Derived.Test.YtgcnbfplihjelaaGreatDoorSb
import Derived.Test.YtgcnbfplihjelaaGreatDoorFk
set_option linter.all false
namespace Go.Proofs.YtgcnbfplihjelaaGreatDoor
open Go.Vs Go.Proofs
/-! Grants, what is sealed -/
def nsec (k : Int) (l : List ByteArray) : Int := l.foldl dsec k
theorem nsec_snoc (k : Int) (d : List ByteArray) (x : ByteArray) : nsec k (d ++ [x]) = dsec (nsec k d) x := by simp [nsec]
theorem is130 : FI 130 Tryz.f130 := ⟨⟨Tryz.f130, Tryz.func130, rfl, rfl, rfl, rfl⟩, rfl⟩
set_option maxRecDepth 20000 in
set_option maxHeartbeats 16000000 in
theorem s_NamespaceSecret (k : Int) (n : Name) (hz : strsSize n.parts ≤ 1048576) : FO 130 [I k, A (Name.c false n)] [I k, A (Name.c false n)] (I (nsec k n.parts)) := by
  refine fok envOk mixed is130 ⟨rfl, rfl, ?_⟩
  have hl := strs_len hz
  refine Lp.mk [.bx 3, .sl 3, .sl 5, .sl 6] (fun m σ => ∃ d r, n.parts = d ++ r ∧ m = r.length ∧ σ = [Bx 3 ((Name.c false n)), Pt 3, Sa 5 (I (nsec k d)), Sa 6 (I d.length)]) (n.parts.length) _ (WkS.weak _ _) ⟨[], n.parts, rfl, rfl, (by first | rfl | (simp only [zlen, zsum, Nat.zero_mul, Int.add_zero, Int.sub_zero, List.nil_append, markG]; rfl))⟩ ?_
  rintro m τ ⟨d, r, hd, rfl, rfl⟩
  have hy : n.parts.length = d.length + r.length := by rw [hd]; simp
  refine Nm.mk lenC ?_
  cases r with
  | nil =>
    refine Br.neg (by simp at *; omega) ?_
    (repeat' ((conv => whnf); first | refine Br.tt ?_ | refine Br.ff ?_ | refine Br.pos (by assumption) ?_ | refine Br.neg (by assumption) ?_ | refine Br.bself ?_ | refine Br.dself ?_ | refine Br.iself ?_ | refine Br.mk (fun _ => ?_) (fun _ => ?_) | refine Nm.mk lenC ?_ | refine Nm.mk (wrapI (by (first | omega | (simp [inR_t, inR_f] at *; omega))) (by (first | omega | (simp [inR_t, inR_f] at *; omega)))) ?_ | refine Nm.mk (wrapQ (by (first | omega | (simp [inR_t, inR_f] at *; omega))) (by (first | omega | (simp [inR_t, inR_f] at *; omega))) (by (first | omega | (simp [inR_t, inR_f] at *; omega)))) ?_ | refine Nm.mk (tmodN (by (first | omega | (simp [inR_t, inR_f] at *; omega)))) ?_ | refine Nm.mk (szS _) ?_ | refine Nm.mk (mi_eq _ _) ?_ | refine Nm.mk (ma_eq _ _) ?_ | refine Rq.mk (by first | (simp [dOwnL, dOwn] <;> fail) | (first | omega | (simp [inR_t, inR_f] at *; omega))) ?_ | refine And.intro (orderFast (by kernel_rfl)) ?_ | refine And.intro (by kernel_rfl) ?_ ))
    refine Vs.Fin.mk (WkR.eq ?_) (.refl _)
    rw [hd]; simp
  | cons x r =>
    simp at hy
    refine Br.pos (by simp; omega) ?_
    refine Rq.mk ⟨by omega, by simp; omega⟩ ?_
    refine El.mk (getH hd rfl) ?_
    (repeat' ((conv => whnf); first | refine Br.tt ?_ | refine Br.ff ?_ | refine Br.pos (by assumption) ?_ | refine Br.neg (by assumption) ?_ | refine Br.bself ?_ | refine Br.dself ?_ | refine Br.iself ?_ | refine Nm.mk lenC ?_ | refine Nm.mk (wrapI (by (first | omega | (simp [inR_t, inR_f] at *; omega))) (by (first | omega | (simp [inR_t, inR_f] at *; omega)))) ?_ | refine Nm.mk (wrapQ (by (first | omega | (simp [inR_t, inR_f] at *; omega))) (by (first | omega | (simp [inR_t, inR_f] at *; omega))) (by (first | omega | (simp [inR_t, inR_f] at *; omega)))) ?_ | refine Nm.mk (tmodN (by (first | omega | (simp [inR_t, inR_f] at *; omega)))) ?_ | refine Nm.mk (szS _) ?_ | refine Nm.mk (mi_eq _ _) ?_ | refine Nm.mk (ma_eq _ _) ?_ | refine Rq.mk (by first | (simp [dOwnL, dOwn] <;> fail) | (first | omega | (simp [inR_t, inR_f] at *; omega))) ?_ | refine And.intro (orderFast (by kernel_rfl)) ?_ | refine And.intro (by kernel_rfl) ?_ | refine Cl.mk (s_DeriveSecret _ x (by have := strs_mem hz (s := x) (by rw [hd]; simp); omega)) ?_ | refine Cl.pre (by simp only [shcLL_ints, shcLL_byts, shcLL_strs, Fetc.shcs, Gran.shcs, Mani.shcs, Name.shcs, Read.shcs, Segm.shcs]; rfl) ?_))
    refine Nx.intro r.length (by simp) _ (WkS.weak _ _) ⟨d ++ [x], r, by simp [hd], rfl, ?_⟩
    rw [len1, nsec_snoc]; rfl
theorem is129 : FI 129 Tryz.f129 := ⟨⟨Tryz.f129, Tryz.func129, rfl, rfl, rfl, rfl⟩, rfl⟩
set_option maxRecDepth 20000 in
set_option maxHeartbeats 16000000 in
theorem i_NamespaceSecret (k : Int) (n : Name) (hz : strsSize n.parts ≤ 1048576) : FO 129 [I k, A (Name.c false n)] [I k, A (Name.c false n)] (I (nsec k n.parts)) := by
  refine fok envOk mixed is129 ⟨rfl, rfl, ?_⟩
  have hl := strs_len hz
  refine Nm.mk lenC ?_
  refine Lp.mk [.sl 0, .sl 8, .sl 9, .sl 10] (fun m σ => ∃ d r, n.parts = d ++ r ∧ m = r.length ∧ σ = [Sa 0 (I (nsec k d)), Sa 8 (Ss false n.parts), Sa 9 (I n.parts.length), Sa 10 (I d.length)]) (n.parts.length) _ (WkS.weak _ _) ⟨[], n.parts, rfl, rfl, (by first | rfl | (simp only [zlen, zsum, Nat.zero_mul, Int.add_zero, Int.sub_zero, List.nil_append, markG]; rfl))⟩ ?_
  rintro m τ ⟨d, r, hd, rfl, rfl⟩
  have hy : n.parts.length = d.length + r.length := by rw [hd]; simp
  cases r with
  | nil =>
    refine Br.neg (by simp at *; omega) ?_
    (repeat' ((conv => whnf); first | refine Br.tt ?_ | refine Br.ff ?_ | refine Br.pos (by assumption) ?_ | refine Br.neg (by assumption) ?_ | refine Br.bself ?_ | refine Br.dself ?_ | refine Br.iself ?_ | refine Br.mk (fun _ => ?_) (fun _ => ?_) | refine Nm.mk lenC ?_ | refine Nm.mk (wrapI (by (first | omega | (simp [inR_t, inR_f] at *; omega))) (by (first | omega | (simp [inR_t, inR_f] at *; omega)))) ?_ | refine Nm.mk (wrapQ (by (first | omega | (simp [inR_t, inR_f] at *; omega))) (by (first | omega | (simp [inR_t, inR_f] at *; omega))) (by (first | omega | (simp [inR_t, inR_f] at *; omega)))) ?_ | refine Nm.mk (tmodN (by (first | omega | (simp [inR_t, inR_f] at *; omega)))) ?_ | refine Nm.mk (szS _) ?_ | refine Nm.mk (mi_eq _ _) ?_ | refine Nm.mk (ma_eq _ _) ?_ | refine Rq.mk (by first | (simp [dOwnL, dOwn] <;> fail) | (first | omega | (simp [inR_t, inR_f] at *; omega))) ?_ | refine And.intro (orderFast (by kernel_rfl)) ?_ | refine And.intro (by kernel_rfl) ?_ ))
    refine Vs.Fin.mk (WkR.eq ?_) (.refl _)
    rw [hd]; simp
  | cons x r =>
    simp at hy
    refine Br.pos (by simp; omega) ?_
    refine Rq.mk ⟨by omega, by simp; omega⟩ ?_
    refine El.mk (getH hd rfl) ?_
    (repeat' ((conv => whnf); first | refine Br.tt ?_ | refine Br.ff ?_ | refine Br.pos (by assumption) ?_ | refine Br.neg (by assumption) ?_ | refine Br.bself ?_ | refine Br.dself ?_ | refine Br.iself ?_ | refine Nm.mk lenC ?_ | refine Nm.mk (wrapI (by (first | omega | (simp [inR_t, inR_f] at *; omega))) (by (first | omega | (simp [inR_t, inR_f] at *; omega)))) ?_ | refine Nm.mk (wrapQ (by (first | omega | (simp [inR_t, inR_f] at *; omega))) (by (first | omega | (simp [inR_t, inR_f] at *; omega))) (by (first | omega | (simp [inR_t, inR_f] at *; omega)))) ?_ | refine Nm.mk (tmodN (by (first | omega | (simp [inR_t, inR_f] at *; omega)))) ?_ | refine Nm.mk (szS _) ?_ | refine Nm.mk (mi_eq _ _) ?_ | refine Nm.mk (ma_eq _ _) ?_ | refine Rq.mk (by first | (simp [dOwnL, dOwn] <;> fail) | (first | omega | (simp [inR_t, inR_f] at *; omega))) ?_ | refine And.intro (orderFast (by kernel_rfl)) ?_ | refine And.intro (by kernel_rfl) ?_ | refine Cl.mk (i_DeriveSecret _ x (by have := strs_mem hz (s := x) (by rw [hd]; simp); omega)) ?_ | refine Cl.pre (by simp only [shcLL_ints, shcLL_byts, shcLL_strs, Fetc.shcs, Gran.shcs, Mani.shcs, Name.shcs, Read.shcs, Segm.shcs]; rfl) ?_))
    refine Nx.intro r.length (by simp) _ (WkS.weak _ _) ⟨d ++ [x], r, by simp [hd], rfl, ?_⟩
    rw [len1, nsec_snoc]; rfl
def mkGran (k : Int) (n : Name) : Gran := ⟨n, nsec k n.parts⟩
theorem is71 : FI 71 Tryz.f71 := ⟨⟨Tryz.f71, Tryz.func71, rfl, rfl, rfl, rfl⟩, rfl⟩
set_option maxRecDepth 20000 in
set_option maxHeartbeats 16000000 in
theorem s_MakeGrant (k : Int) (n : Name) (hz : strsSize n.parts ≤ 1048576) : FO 71 [I k, A (Name.c false n)] [I k, A (Name.c false n)] (A (Gran.c true (mkGran k n))) := by
  refine fok envOk mixed is71 ⟨rfl, rfl, ?_⟩
  (repeat' ((conv => whnf); first | refine Br.tt ?_ | refine Br.ff ?_ | refine Br.pos (by assumption) ?_ | refine Br.neg (by assumption) ?_ | refine Br.bself ?_ | refine Br.dself ?_ | refine Br.iself ?_ | refine Br.mk (fun _ => ?_) (fun _ => ?_) | refine Nm.mk lenC ?_ | refine Nm.mk (wrapI (by (first | omega | (simp [inR_t, inR_f] at *; omega))) (by (first | omega | (simp [inR_t, inR_f] at *; omega)))) ?_ | refine Nm.mk (wrapQ (by (first | omega | (simp [inR_t, inR_f] at *; omega))) (by (first | omega | (simp [inR_t, inR_f] at *; omega))) (by (first | omega | (simp [inR_t, inR_f] at *; omega)))) ?_ | refine Nm.mk (tmodN (by (first | omega | (simp [inR_t, inR_f] at *; omega)))) ?_ | refine Nm.mk (szS _) ?_ | refine Nm.mk (mi_eq _ _) ?_ | refine Nm.mk (ma_eq _ _) ?_ | refine Rq.mk (by first | (simp [dOwnL, dOwn] <;> fail) | (first | omega | (simp [inR_t, inR_f] at *; omega))) ?_ | refine And.intro (orderFast (by kernel_rfl)) ?_ | refine And.intro (by kernel_rfl) ?_ | refine Cl.mk (s_NamespaceSecret k n hz) ?_ | refine Cl.mk (s_l4Copy n (by omega)) ?_ | refine Cl.pre (by simp only [shcLL_ints, shcLL_byts, shcLL_strs, Fetc.shcs, Gran.shcs, Mani.shcs, Name.shcs, Read.shcs, Segm.shcs]; rfl) ?_))
  exact ⟨WkR.refl _, .refl _⟩
theorem is70 : FI 70 Tryz.f70 := ⟨⟨Tryz.f70, Tryz.func70, rfl, rfl, rfl, rfl⟩, rfl⟩
set_option maxRecDepth 20000 in
set_option maxHeartbeats 16000000 in
theorem i_MakeGrant (k : Int) (n : Name) (hz : strsSize n.parts ≤ 1048576) : FO 70 [I k, A (Name.c false n)] [I k, A (Name.c false n)] (A (Gran.c true (mkGran k n))) := by
  refine fok envOk mixed is70 ⟨rfl, rfl, ?_⟩
  have hl := strs_len hz
  (repeat' ((conv => whnf); first | refine Br.tt ?_ | refine Br.ff ?_ | refine Br.pos (by assumption) ?_ | refine Br.neg (by assumption) ?_ | refine Br.bself ?_ | refine Br.dself ?_ | refine Br.iself ?_ | refine Br.mk (fun _ => ?_) (fun _ => ?_) | refine Nm.mk lenC ?_ | refine Nm.mk (wrapI (by (first | omega | (simp [inR_t, inR_f] at *; omega))) (by (first | omega | (simp [inR_t, inR_f] at *; omega)))) ?_ | refine Nm.mk (wrapQ (by (first | omega | (simp [inR_t, inR_f] at *; omega))) (by (first | omega | (simp [inR_t, inR_f] at *; omega))) (by (first | omega | (simp [inR_t, inR_f] at *; omega)))) ?_ | refine Nm.mk (tmodN (by (first | omega | (simp [inR_t, inR_f] at *; omega)))) ?_ | refine Nm.mk (szS _) ?_ | refine Nm.mk (mi_eq _ _) ?_ | refine Nm.mk (ma_eq _ _) ?_ | refine Rq.mk (by first | (simp [dOwnL, dOwn] <;> fail) | (first | omega | (simp [inR_t, inR_f] at *; omega))) ?_ | refine And.intro (orderFast (by kernel_rfl)) ?_ | refine And.intro (by kernel_rfl) ?_ | refine Cl.mk (i_NamespaceSecret k n hz) ?_ | refine Cl.mk (i_copyName n (by omega)) ?_ | refine Cl.pre (by simp only [shcLL_ints, shcLL_byts, shcLL_strs, Fetc.shcs, Gran.shcs, Mani.shcs, Name.shcs, Read.shcs, Segm.shcs]; rfl) ?_))
  exact ⟨WkR.refl _, .refl _⟩
theorem wrap8z (z : Int) : IntKind.wrap .u8 z = ((UInt8.ofNat (z % 256).toNat).toNat : Int) := by
  have h : IntKind.wrap .u8 z = z % 256 := by
    unfold IntKind.wrap
    simp [IntKind.signed, IntKind.bits]
  rw [h, UInt8.toNat_ofNat']
  omega
theorem wrap8s {z : Int} (h : 0 ≤ z ∧ z < 256) : IntKind.wrap .u8 z = z := by
  unfold IntKind.wrap
  simp [IntKind.signed, IntKind.bits]
  omega
def kst (k : Int) (i : Nat) : Int := mac k [(i : Int)] % 256
theorem kst_b (k : Int) (i : Nat) : 0 ≤ kst k i ∧ kst k i < 256 := by unfold kst; omega
def encB (k : Int) (i : Nat) (x : UInt8) : UInt8 := UInt8.ofNat (((x.toNat : Int) + kst k i) % 256).toNat
def decB (k : Int) (i : Nat) (x : UInt8) : UInt8 := UInt8.ofNat (((x.toNat : Int) - kst k i) % 256).toNat
def encL (k : Int) (l : List UInt8) : List UInt8 := l.mapIdx (encB k)
def decL (k : Int) (l : List UInt8) : List UInt8 := l.mapIdx (decB k)
theorem encL_snoc (k : Int) (d : List UInt8) (x : UInt8) : encL k (d ++ [x]) = encL k d ++ [encB k d.length x] := by simp [encL, List.mapIdx_append]
theorem decL_snoc (k : Int) (d : List UInt8) (x : UInt8) : decL k (d ++ [x]) = decL k d ++ [decB k d.length x] := by simp [decL, List.mapIdx_append]
@[simp] theorem encL_len (k : Int) (d : List UInt8) : (encL k d).length = d.length := by simp [encL]
@[simp] theorem decL_len (k : Int) (d : List UInt8) : (decL k d).length = d.length := by simp [decL]
end Go.Proofs.YtgcnbfplihjelaaGreatDoor
