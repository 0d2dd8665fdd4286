/- Contracts of functions of the program: no statement of the seat is proved here. Each under the conditions that stand in it. -/
import Derived.Test.YtoekfmkbkffciaaGreatDoorFr
set_option linter.all false
namespace Go.Proofs.YtoekfmkbkffciaaGreatDoor
open Go.Vs Go.Proofs
/-! Fetches that hold together -/
def allM (p : Mani) : Int := ((2 ^ p.dig.length : Nat) : Int) - 1
theorem allM_b {p : Mani} (h : p.dig.length ≤ 8) : 0 ≤ allM p ∧ allM p ≤ 255 := by
  have h1 : 2 ^ p.dig.length ≤ 2 ^ 8 := Nat.pow_le_pow_right (by omega) h
  have h2 : 0 < 2 ^ p.dig.length := Nat.pow_pos (by omega)
  unfold allM
  omega
theorem shl1 {j : Nat} (hj : j ≤ 8) : IntKind.wrap .i64 (1 * 2 ^ (min (j : Int).toNat (IntKind.bits .i64))) = ((2 ^ j : Nat) : Int) := by
  have h1 : 2 ^ j ≤ 2 ^ 8 := Nat.pow_le_pow_right (by omega) hj
  have := shl64 (a := 1) (j := j) (by omega) (by omega)
  simpa using this
theorem and64I {x y : Int} (hx : 0 ≤ x ∧ x ≤ 255) (hy : 0 ≤ y ∧ y ≤ 255) : IntKind.wrap .i64 ((BitVec.ofInt (IntKind.bits .i64) x &&& BitVec.ofInt (IntKind.bits .i64) y).toNat : Int) = ((x.toNat &&& y.toNat : Nat) : Int) := by
  have := and64 (a := x.toNat) (b := y.toNat) (by omega) (by omega)
  rw [Int.toNat_of_nonneg hx.1, Int.toNat_of_nonneg hy.1] at this
  exact this
theorem shl1W {j : Nat} (hj : j ≤ 8) : IntKind.wrap .i64 (((2 ^ j : Nat) : Int) - 1) = ((2 ^ j : Nat) : Int) - 1 := by
  have h1 : 2 ^ j ≤ 2 ^ 8 := Nat.pow_le_pow_right (by omega) hj
  have h2 : 0 < 2 ^ j := Nat.pow_pos (by omega)
  generalize 2 ^ j = z at *
  exact wrapI (by omega) (by omega)
theorem vSeg_nil {p : Mani} (h : vMani p = true) (k : Int) : vSeg p k [] = false := by
  cases hs : vSeg p k [] with
  | false => rfl
  | true =>
    exfalso
    simp only [vSeg, Bool.and_eq_true, decide_eq_true_eq, inR_t] at hs
    obtain ⟨⟨⟨-, h1, h2⟩, h3⟩, -⟩ := hs
    obtain ⟨a1, a2, a3, a4, a5⟩ := vMani_b h
    have e : cdiv p.len p.seg = (p.len + p.seg - 1) / p.seg := by
      unfold cdiv; rw [if_pos (by simp [inR_t]; omega)]
    have b1 := Int.ediv_mul_le (p.len + p.seg - 1) (b := p.seg) (by omega)
    rw [← e, ← a5] at b1
    have b2 : 0 ≤ ((p.dig.length : Int) - 1 - k) * p.seg := Int.mul_nonneg (by omega) (by omega)
    rw [Int.sub_mul, Int.sub_mul, Int.one_mul] at b2
    unfold mi at h3
    simp at h3
    split at h3 <;> omega
def ok1 (p : Mani) (r k : Int) (c : List UInt8) : Bool := if inSt r k then vSeg p k c else c.isEmpty
def okSs (p : Mani) (r : Int) : Nat → List Segm → Bool
  | _, [] => true
  | k, s :: l => ok1 p r (k : Int) s.content && okSs p r (k + 1) l
theorem okSs_no {p : Mani} {r : Int} {k : Nat} {s : Segm} {l : List Segm} (h : ok1 p r (k : Int) s.content = false) : okSs p r k (s :: l) = false := by simp [okSs, h]
theorem okSs_go {p : Mani} {r : Int} {k : Nat} {s : Segm} {l : List Segm} (h : ok1 p r (k : Int) s.content = true) : okSs p r k (s :: l) = okSs p r (k + 1) l := by simp [okSs, h]
theorem ok1_spec {p : Mani} (h : vMani p = true) {r k : Int} {c : List UInt8} : ok1 p r k c = !(!(inSt r k == decide ((c.length : Int) > 0)) || (inSt r k && !vSeg p k c)) := by
  cases c with
  | nil => cases hi : inSt r k <;> simp [ok1, hi, vSeg_nil h]
  | cons a c =>
    have h2 : decide ((((a :: c).length : Nat) : Int) > 0) = true := by simp
    rw [h2]
    cases hi : inSt r k <;> simp [ok1, hi]
def vFet (f : Fetc) : Bool := vMani f.mani && inR f.received 0 (allM f.mani) && inR f.outst 0 (allM f.mani) && decide (f.received.toNat &&& f.outst.toNat = 0) && decide (f.segs.length = f.mani.dig.length) && okSs f.mani f.received 0 f.segs && inR f.window 1 8 && inR f.thresh 1 8 && inR f.losses 0 2
theorem is17 : FI 17 Tryz.f17 := ⟨⟨Tryz.f17, Tryz.func17, rfl, rfl, rfl, rfl⟩, rfl⟩
set_option maxRecDepth 20000 in
set_option maxHeartbeats 16000000 in
theorem i_ValidFetcher (f : Fetc) (hr : Fetc.rng f) (hz : Fetc.size f ≤ 1048576) : FO 17 [A (Fetc.c false f)] [A (Fetc.c false f)] (B (vFet f)) := by
  refine fok envOk mixed is17 ⟨rfl, rfl, ?_⟩
  have hl : f.mani.dig.length ≤ 1048576 := by simp only [Fetc.size, Mani.size] at hz; omega
  cases hv : vMani f.mani with
  | false =>
    have f1 : (!vMani f.mani) = true := by simp [hv]
    rw [show vFet f = false by simp [vFet, hv]]
    (repeat' ((conv => whnf); first | refine stp ?_ | refine Cl.mk (i_ValidManifest f.mani hl) ?_ | refine Cl.pre (by simp only [shcLL_ints, shcLL_byts, shcLL_strs, Fetc.shcs, Mani.shcs, Name.shcs, Segm.shcs]; rfl) ?_))
    exact Vs.Fin.mk (WkR.refl _) (.refl _)
  | true =>
    have h8 := vMani_len hv
    have hA := allM_b h8
    have f1 : (!vMani f.mani) = false := by simp [hv]
    (repeat' ((conv => whnf); first | refine stp ?_ | refine Br.mk (fun _ => ?_) (fun _ => ?_) | refine Cl.mk (i_ValidManifest f.mani hl) ?_ | refine Cl.mk (i_InRange _ _ (allM f.mani)) ?_ | refine Nm.mk (shl1 h8) ?_ | refine Nm.mk (shl1W h8) ?_ | refine Nm.mk (and64I (by simp [inR_t] at *; omega) (by simp [inR_t] at *; omega)) ?_ | refine Cl.pre (by simp only [shcLL_ints, shcLL_byts, shcLL_strs, Fetc.shcs, Mani.shcs, Name.shcs, Segm.shcs]; rfl) ?_))
    all_goals try (refine Vs.Fin.mk (WkR.eq ?_) (.refl _); simp_all [vFet] <;> omega)
    have hvf0 : vFet f = (okSs f.mani f.received 0 f.segs && inR f.window 1 8 && inR f.thresh 1 8 && inR f.losses 0 2) := by
      simp_all [vFet, Bool.and_assoc]
      all_goals omega
    refine Lp.mk [.bx 1, .sl 1, .sl 48, .sl 49, .sl 50] (fun m σ => ∃ d r, f.segs = d ++ r ∧ m = r.length ∧ okSs f.mani f.received 0 f.segs = okSs f.mani f.received d.length r ∧ σ = [Bx 1 ((Fetc.c false f)), Pt 1, Sa 48 (O (sl false 1 (f.segs.map (Segm.c false)))), Sa 49 (I f.segs.length), Sa 50 (I d.length)]) (f.segs.length) _ (WkS.weak _ _) ⟨[], f.segs, rfl, rfl, rfl, (by first | rfl | (simp only [zlen, zsum, Nat.zero_mul, Int.add_zero, Int.sub_zero, List.nil_append, markG]; rfl))⟩ ?_
    rintro m τ ⟨d, r, hd, rfl, hok, rfl⟩
    rw [hok] at hvf0
    rw [hvf0]
    have hy : f.segs.length = d.length + r.length := by rw [hd]; simp
    cases r with
    | nil =>
      refine Br.neg (by simp at *; omega) ?_
      (repeat' ((conv => whnf); first | refine stp ?_ | refine Br.mk (fun _ => ?_) (fun _ => ?_) | refine Cl.mk (i_InRange _ _ _) ?_ | refine Cl.pre (by simp only [shcLL_ints, shcLL_byts, shcLL_strs, Fetc.shcs, Mani.shcs, Name.shcs, Segm.shcs]; rfl) ?_))
      all_goals (refine Vs.Fin.mk (WkR.eq ?_) (.refl _); simp_all [okSs])
    | cons x r =>
      simp at hy
      refine Br.pos (by simp; omega) ?_
      have hsz : x.content.length ≤ 1048576 := by
        have h1 : x.content.length ≤ sumN Segm.size f.segs := sumN_mem Segm.size (by rw [hd]; simp)
        simp only [Fetc.size] at hz
        omega
      have o1 := @okSs_no f.mani f.received d.length x r
      have o2 := @okSs_go f.mani f.received d.length x r
      rw [ok1_spec hv] at o1 o2
      have hne : vSeg f.mani (d.length : Int) x.content = true → 0 < x.content.length := by
        intro h
        cases hc : x.content with
        | nil => rw [hc, vSeg_nil hv] at h; simp at h
        | cons a l => simp
      (repeat' ((conv => whnf); first | refine stp ?_ | refine Br.mk (fun _ => ?_) (fun _ => ?_) | refine Cl.mk (i_inSet _ _ hr.2.1.2) ?_ | refine El.mk (getH hd rfl) ?_ | refine Cl.mk (i_VerifySegment f.mani d.length x.content hl hsz) ?_ | refine Cl.pre (by simp only [shcLL_ints, shcLL_byts, shcLL_strs, Fetc.shcs, Mani.shcs, Name.shcs, Segm.shcs]; rfl) ?_))
      all_goals try (refine Vs.Fin.mk (WkR.eq ?_) (.refl _); rw [o1 (by simp_all)]; simp)
      all_goals refine Nx.intro r.length (by simp) _ (WkS.weak _ _) ⟨d ++ [x], r, by simp [hd], rfl, hok.trans ((o2 ?_).trans (by simp)), ?_⟩
      all_goals first | (rw [len1]; rfl) | simp_all
end Go.Proofs.YtoekfmkbkffciaaGreatDoor
