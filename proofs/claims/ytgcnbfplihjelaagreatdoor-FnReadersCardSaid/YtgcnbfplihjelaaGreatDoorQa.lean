/- Contracts of functions of the program: no statement of the seat is proved here. Each under the conditions that stand in it. -/
import Derived.Test.YtgcnbfplihjelaaGreatDoorUb
import Derived.Test.YtgcnbfplihjelaaGreatDoorUd
import Derived.Test.YtgcnbfplihjelaaGreatDoorFr
set_option linter.all false
namespace Go.Proofs.YtgcnbfplihjelaaGreatDoor
open Go.Vs Go.Proofs
/-! Plans, drawn -/
abbrev MY (p : Mani) (b : List UInt8) : Arg := (.tup [(true, 3), (false, 1)], [cI p.seg, cI p.len, cIs true p.dig, cYs true b])
abbrev YI (b : List UInt8) (i : Int) : Arg := (.tup [(false, 1), (false, 1)], [cYs true b, cI i])
abbrev YMI (b : List UInt8) (p : Mani) (i : Int) : Arg := (.tup [(false, 1), (true, 3), (false, 1)], [cYs true b, cI p.seg, cI p.len, cIs true p.dig, cI i])
abbrev MIY (p : Mani) (i : Int) (b : List UInt8) : Arg := (.tup [(true, 3), (false, 1), (false, 1)], [cI p.seg, cI p.len, cIs true p.dig, cI i, cYs false b])
abbrev NI (n : Name) (i : Int) : Arg := (.tup [(true, 1), (false, 1)], [cSs true n.parts, cI i])
theorem mkMani_b {b : List UInt8} {v : Int} (hb : b.length ≤ 20) : (mkMani b v).dig.length ≤ 20 ∧ 0 ≤ (mkMani b v).len ∧ (mkMani b v).len ≤ 20 := by
  unfold mkMani
  split
  · rename_i h
    simp [inR_t] at h
    simp only [digs_len]
    have h2 : cdiv b.length v ≤ 8 := by
      unfold cdiv
      split
      · have : ((b.length : Int) + v - 1) / v < 9 := Int.ediv_lt_of_lt_mul (by omega) (by omega)
        omega
      · omega
    omega
  · simp
theorem setI {l : List Int} {v : Int} {k : Nat} : (ints l).set k (spliceAV [cI (l[k]?.getD 0)] 0 [cI v]) = ints (l.set k v) := by
  simp [ints, List.map_set, spliceAV]
theorem getI {l : List Int} {k : Nat} (h : k < l.length) : (ints l)[k]? = some [cI (l[k]?.getD 0)] := by
  simp [ints, h]
theorem is47 : FI 47 Tryz.f47 := ⟨⟨Tryz.f47, Tryz.func47, rfl, rfl, rfl, rfl⟩, rfl⟩
set_option maxRecDepth 20000 in
set_option maxHeartbeats 16000000 in
theorem DSegm0 (l : List UInt8) (c0 c1 c2 c3 : List AV) (x y : Int) (b : List UInt8) (hy : 0 ≤ y ∧ y < 6) (k0 : FO 59 [Ys false l] [Ys false l] (O (.own c0))) (k1 : FO 62 [O (.own c0), I 24] [O (.own c1), I 24] (I x)) (k2 : FO 92 [O (.own c1), I x] [O (.own c2), I x] (Ys true b)) (k3 : FO 62 [O (.own c2), I 6] [O (.own c3), I 6] (I y)) : FO 47 [Ys false l] [Ys false l] (YI b (3 + y)) := by
  refine fok envOk mixed is47 ⟨rfl, rfl, ?_⟩
  (repeat' ((conv => whnf); first | refine Br.tt ?_ | refine Br.ff ?_ | refine Br.pos (by assumption) ?_ | refine Br.neg (by assumption) ?_ | refine Br.bself ?_ | refine Br.dself ?_ | refine Br.iself ?_ | refine Nm.mk lenC ?_ | refine Nm.mk (wrapI (by (first | omega | (simp [inR_t, inR_f] at *; omega))) (by (first | omega | (simp [inR_t, inR_f] at *; omega)))) ?_ | refine Nm.mk (wrapQ (by (first | omega | (simp [inR_t, inR_f] at *; omega))) (by (first | omega | (simp [inR_t, inR_f] at *; omega))) (by (first | omega | (simp [inR_t, inR_f] at *; omega)))) ?_ | refine Nm.mk (tmodN (by (first | omega | (simp [inR_t, inR_f] at *; omega)))) ?_ | refine Nm.mk (szS _) ?_ | refine Nm.mk (mi_eq _ _) ?_ | refine Nm.mk (ma_eq _ _) ?_ | refine Rq.mk (by first | (simp [dOwnL, dOwn] <;> fail) | (first | omega | (simp [inR_t, inR_f] at *; omega))) ?_ | refine And.intro (orderFast (by kernel_rfl)) ?_ | refine And.intro (by kernel_rfl) ?_ | refine Cl.mk (k0) ?_ | refine Cl.mk (k1) ?_ | refine Cl.mk (k2) ?_ | refine Cl.mk (k3) ?_ | refine Cl.pre (by simp only [shcLL_ints, shcLL_byts, shcLL_strs, Fetc.shcs, Gran.shcs, Mani.shcs, Name.shcs, Read.shcs, Segm.shcs]; rfl) ?_))
  exact Vs.Fin.mk (WkR.refl _) (.refl _)
theorem DSegm_ok (l : List UInt8) (hl : l.length ≤ 1048576) : ∃ (b : List UInt8) (y : Int), b.length < 24 ∧ (3 ≤ y ∧ y ≤ 8) ∧ FO 47 [Ys false l] [Ys false l] (YI b y) := by
  obtain ⟨c0, i0, k0⟩ := new_ok l hl
  obtain ⟨c1, x, i1, hx, -, k1⟩ := below_ok i0 24
  have hx := hx (by omega)
  obtain ⟨c2, b, i2, hb, k2⟩ := bytes_ok i1 x (by omega)
  obtain ⟨c3, y, i3, hy, -, k3⟩ := below_ok i2 6
  have hy := hy (by omega)
  exact ⟨b, 3 + y, by omega, by omega, DSegm0 l c0 c1 c2 c3 x y b hy k0 k1 k2 k3⟩
theorem is25 : FI 25 Tryz.f25 := ⟨⟨Tryz.f25, Tryz.func25, rfl, rfl, rfl, rfl⟩, rfl⟩
set_option maxRecDepth 20000 in
set_option maxHeartbeats 16000000 in
theorem same_Ints (l : List Int) (hl : l.length ≤ 1099511627776) : FO 25 [Is false l, Is false l] [Is false l, Is false l] (B true) := by
  refine fok envOk mixed is25 ⟨rfl, rfl, ?_⟩
  (repeat' ((conv => whnf); first | refine Br.tt ?_ | refine Br.ff ?_ | refine Br.pos (by assumption) ?_ | refine Br.neg (by assumption) ?_ | refine Br.bself ?_ | refine Br.dself ?_ | refine Br.iself ?_ | refine Nm.mk lenC ?_ | refine Nm.mk (wrapI (by (first | omega | (simp [inR_t, inR_f] at *; omega))) (by (first | omega | (simp [inR_t, inR_f] at *; omega)))) ?_ | refine Nm.mk (wrapQ (by (first | omega | (simp [inR_t, inR_f] at *; omega))) (by (first | omega | (simp [inR_t, inR_f] at *; omega))) (by (first | omega | (simp [inR_t, inR_f] at *; omega)))) ?_ | refine Nm.mk (tmodN (by (first | omega | (simp [inR_t, inR_f] at *; omega)))) ?_ | refine Nm.mk (szS _) ?_ | refine Nm.mk (mi_eq _ _) ?_ | refine Nm.mk (ma_eq _ _) ?_ | refine Rq.mk (by first | (simp [dOwnL, dOwn] <;> fail) | (first | omega | (simp [inR_t, inR_f] at *; omega))) ?_ | refine And.intro (orderFast (by kernel_rfl)) ?_ | refine And.intro (by kernel_rfl) ?_ ))
  refine Lp.mk [.sl 0, .sl 1, .sl 5] (fun m σ => ∃ d r, l = d ++ r ∧ m = r.length ∧ σ = [Sa 0 (Is false l), Sa 1 (Is false l), Sa 5 (I d.length)]) (l.length) _ (WkS.weak _ _) ⟨[], l, rfl, rfl, (by first | rfl | (simp only [zlen, zsum, Nat.zero_mul, Int.add_zero, Int.sub_zero, List.nil_append, markG]; rfl))⟩ ?_
  rintro m τ ⟨d, r, hl2, rfl, rfl⟩
  have hy : l.length = d.length + r.length := by rw [hl2]; simp
  refine Nm.mk lenC ?_
  cases r with
  | nil =>
    refine Br.neg (by simp at * <;> omega) ?_
    (repeat' ((conv => whnf); first | refine Br.tt ?_ | refine Br.ff ?_ | refine Br.pos (by assumption) ?_ | refine Br.neg (by assumption) ?_ | refine Br.bself ?_ | refine Br.dself ?_ | refine Br.iself ?_ | refine Nm.mk lenC ?_ | refine Nm.mk (wrapI (by (first | omega | (simp [inR_t, inR_f] at *; omega))) (by (first | omega | (simp [inR_t, inR_f] at *; omega)))) ?_ | refine Nm.mk (wrapQ (by (first | omega | (simp [inR_t, inR_f] at *; omega))) (by (first | omega | (simp [inR_t, inR_f] at *; omega))) (by (first | omega | (simp [inR_t, inR_f] at *; omega)))) ?_ | refine Nm.mk (tmodN (by (first | omega | (simp [inR_t, inR_f] at *; omega)))) ?_ | refine Nm.mk (szS _) ?_ | refine Nm.mk (mi_eq _ _) ?_ | refine Nm.mk (ma_eq _ _) ?_ | refine Rq.mk (by first | (simp [dOwnL, dOwn] <;> fail) | (first | omega | (simp [inR_t, inR_f] at *; omega))) ?_ | refine And.intro (orderFast (by kernel_rfl)) ?_ | refine And.intro (by kernel_rfl) ?_ ))
    exact Vs.Fin.mk (WkR.refl _) (.refl _)
  | cons x r =>
    simp at hy
    refine Br.pos (by simp <;> omega) ?_
    (repeat' ((conv => whnf); first | refine Br.tt ?_ | refine Br.ff ?_ | refine Br.pos (by assumption) ?_ | refine Br.neg (by assumption) ?_ | refine Br.bself ?_ | refine Br.dself ?_ | refine Br.iself ?_ | refine Nm.mk lenC ?_ | refine Nm.mk (wrapI (by (first | omega | (simp [inR_t, inR_f] at *; omega))) (by (first | omega | (simp [inR_t, inR_f] at *; omega)))) ?_ | refine Nm.mk (wrapQ (by (first | omega | (simp [inR_t, inR_f] at *; omega))) (by (first | omega | (simp [inR_t, inR_f] at *; omega))) (by (first | omega | (simp [inR_t, inR_f] at *; omega)))) ?_ | refine Nm.mk (tmodN (by (first | omega | (simp [inR_t, inR_f] at *; omega)))) ?_ | refine Nm.mk (szS _) ?_ | refine Nm.mk (mi_eq _ _) ?_ | refine Nm.mk (ma_eq _ _) ?_ | refine Rq.mk (by first | (simp [dOwnL, dOwn] <;> fail) | (first | omega | (simp [inR_t, inR_f] at *; omega))) ?_ | refine And.intro (orderFast (by kernel_rfl)) ?_ | refine And.intro (by kernel_rfl) ?_ | refine El.mk (getH hl2 rfl) ?_ | refine Cl.pre (by simp only [shcLL_ints, shcLL_byts, shcLL_strs, Fetc.shcs, Gran.shcs, Mani.shcs, Name.shcs, Read.shcs, Segm.shcs]; rfl) ?_))
    refine Nx.intro r.length (by simp) _ (WkS.weak _ _) ⟨d ++ [x], r, by simp [hl2], rfl, ?_⟩
    rw [len1]; rfl
theorem Breqt {x : Int} {X Y : Prop} (h : X) : Br (x == x) X Y := by
  rw [beq_self_eq_true]; exact Br.tt h
end Go.Proofs.YtgcnbfplihjelaaGreatDoor
