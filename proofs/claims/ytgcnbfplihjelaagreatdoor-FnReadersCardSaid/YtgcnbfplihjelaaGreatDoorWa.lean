/- Contracts of functions of the program: no statement of the seat is proved here. Each under the conditions that stand in it. -/
import Derived.Test.YtgcnbfplihjelaaGreatDoorFn
set_option linter.all false
namespace Go.Proofs.YtgcnbfplihjelaaGreatDoor
open Go.Vs Go.Proofs
/-! Integers, as text -/
def dgB (d : Nat) : ByteArray := ⟨#[UInt8.ofNat (48 + d)]⟩
def fmtF : Nat → Nat → ByteArray → ByteArray
  | 0, _, acc => acc
  | k + 1, x, acc => if x = 0 then acc else fmtF k (x / 10) (dgB (x % 10) ++ acc)
def minusB : ByteArray := ⟨#[45]⟩
def zeroB : ByteArray := ⟨#[48]⟩
def fmtI (n : Int) : ByteArray := if n = 0 then zeroB else if n < 0 then minusB ++ fmtF 20 n.natAbs ByteArray.empty else fmtF 20 n.natAbs ByteArray.empty
theorem fmtF_size : ∀ (k x : Nat) (acc : ByteArray), (fmtF k x acc).size ≤ k + acc.size
  | 0, x, acc => by simp [fmtF]
  | k + 1, x, acc => by
    unfold fmtF
    split
    · omega
    · have := fmtF_size k (x / 10) (dgB (x % 10) ++ acc)
      have h2 : (dgB (x % 10) ++ acc).size = 1 + acc.size := by rw [ByteArray.size_append]; rfl
      omega
theorem fmtI_size (n : Int) : (fmtI n).size ≤ 21 := by
  have h := fmtF_size 20 n.natAbs ByteArray.empty
  have e : ByteArray.empty.size = 0 := rfl
  unfold fmtI
  split
  · decide
  · split
    · rw [ByteArray.size_append]
      have : minusB.size = 1 := rfl
      omega
    · omega
theorem wrap8n {d : Nat} (h : d < 10) : IntKind.wrap .u8 (48 + (d : Int)) = ((UInt8.ofNat (48 + d)).toNat : Int) := by
  have h1 : IntKind.wrap .u8 (48 + (d : Int)) = (48 + (d : Int)) % 256 := by unfold IntKind.wrap; simp [IntKind.signed, IntKind.bits]
  rw [h1, UInt8.toNat_ofNat']
  omega
theorem dg_eq (d : Nat) : (⟨(bytesOf (shcLL [[AV.v (Value.int .u8 ((UInt8.ofNat (48 + d)).toNat : Int))]])).toArray⟩ : ByteArray) = dgB d := by
  have h : UInt8.ofNat (((UInt8.ofNat (48 + d)).toNat : Int)).toNat = UInt8.ofNat (48 + d) := by rw [Int.toNat_natCast, UInt8.ofNat_toNat]
  show (⟨([UInt8.ofNat (((UInt8.ofNat (48 + d)).toNat : Int)).toNat]).toArray⟩ : ByteArray) = dgB d
  rw [h]; rfl
theorem el1 (n : Int) : ∀ el ∈ shcLL [[AV.v (Value.int .u8 n)]], ∃ k, el = [AV.v (Value.int .u8 k)] := by
  intro el h
  simp only [shcLL, shcL, Vs.shc, List.mem_singleton] at h
  exact ⟨n, h⟩
theorem str_room {a b : ByteArray} (ha : a.size ≤ 100) (hb : b.size ≤ 100) : ((a.size + b.size : Nat) : Int) ≤ IntKind.i64.max := by
  have : IntKind.i64.max = 9223372036854775807 := rfl
  omega
theorem is81 : FI 81 Tryz.f81 := ⟨⟨Tryz.f81, Tryz.func81, rfl, rfl, rfl, rfl⟩, rfl⟩
set_option maxRecDepth 20000 in
set_option maxHeartbeats 16000000 in
theorem s_FormatInt (n : Int) (hn : -9223372036854775808 ≤ n ∧ n ≤ 9223372036854775807) : FO 81 [I n] [I n] (S (fmtI n)) := by
  refine fok envOk mixed is81 ⟨rfl, rfl, ?_⟩
  by_cases h0 : n = 0
  · subst h0
    (repeat' ((conv => whnf); first | refine Br.tt ?_ | refine Br.ff ?_ | refine Br.pos (by assumption) ?_ | refine Br.neg (by assumption) ?_ | refine Br.bself ?_ | refine Br.dself ?_ | refine Br.iself ?_ | refine Nm.mk lenC ?_ | refine Nm.mk (wrapI (by (first | omega | (simp [inR_t, inR_f] at *; omega))) (by (first | omega | (simp [inR_t, inR_f] at *; omega)))) ?_ | refine Nm.mk (wrapQ (by (first | omega | (simp [inR_t, inR_f] at *; omega))) (by (first | omega | (simp [inR_t, inR_f] at *; omega))) (by (first | omega | (simp [inR_t, inR_f] at *; omega)))) ?_ | refine Nm.mk (tmodN (by (first | omega | (simp [inR_t, inR_f] at *; omega)))) ?_ | refine Nm.mk (szS _) ?_ | refine Nm.mk (mi_eq _ _) ?_ | refine Nm.mk (ma_eq _ _) ?_ | refine Rq.mk (by first | (simp [dOwnL, dOwn] <;> fail) | (first | omega | (simp [inR_t, inR_f] at *; omega))) ?_ | refine And.intro (orderFast (by kernel_rfl)) ?_ | refine And.intro (by kernel_rfl) ?_ ))
    exact Vs.Fin.mk (WkR.refl _) (.refl _)
  have f0 : (n == 0) = false := by simpa using h0
  by_cases hneg : n < 0
  · have f9 : decide (n < 0) = true := by simpa using hneg
    have hN : n = -((n.natAbs : Nat) : Int) := by omega
    have hR : fmtI n = minusB ++ fmtF 20 n.natAbs ByteArray.empty := by unfold fmtI; rw [if_neg h0, if_pos hneg]
    rw [hR]
    have hb : n.natAbs < 10 ^ 20 := by omega
    generalize n.natAbs = N at hN hb ⊢
    subst hN
    (repeat' ((conv => whnf); first | refine Br.tt ?_ | refine Br.ff ?_ | refine Br.pos (by assumption) ?_ | refine Br.neg (by assumption) ?_ | refine Br.bself ?_ | refine Br.dself ?_ | refine Br.iself ?_ | refine Nm.mk lenC ?_ | refine Nm.mk (wrapI (by (first | omega | (simp [inR_t, inR_f] at *; omega))) (by (first | omega | (simp [inR_t, inR_f] at *; omega)))) ?_ | refine Nm.mk (wrapQ (by (first | omega | (simp [inR_t, inR_f] at *; omega))) (by (first | omega | (simp [inR_t, inR_f] at *; omega))) (by (first | omega | (simp [inR_t, inR_f] at *; omega)))) ?_ | refine Nm.mk (tmodN (by (first | omega | (simp [inR_t, inR_f] at *; omega)))) ?_ | refine Nm.mk (szS _) ?_ | refine Nm.mk (mi_eq _ _) ?_ | refine Nm.mk (ma_eq _ _) ?_ | refine Rq.mk (by first | (simp [dOwnL, dOwn] <;> fail) | (first | omega | (simp [inR_t, inR_f] at *; omega))) ?_ | refine And.intro (orderFast (by kernel_rfl)) ?_ | refine And.intro (by kernel_rfl) ?_ ))
    refine Lp.mk [.sl 0, .sl 3, .sl 4] (fun m σ => ∃ x acc, fmtF 20 N ByteArray.empty = fmtF m x acc ∧ x < 10 ^ m ∧ x ≤ 9223372036854775808 ∧ acc.size + m = 20 ∧ σ = [Sa 0 (I (-((N : Nat) : Int))), Sa 3 (S acc), Sa 4 (I (-((x : Nat) : Int)))]) (20) _ (WkS.weak _ _) ⟨N, ByteArray.empty, rfl, hb, by omega, rfl, (by first | rfl | (simp only [zlen, zsum, Nat.zero_mul, Int.add_zero, Int.sub_zero, List.nil_append, markG]; rfl))⟩ ?_
    rintro m τ ⟨x, acc, hx, hxm, hxb, hsz, rfl⟩
    by_cases hz : x = 0
    · subst hz
      have hx : fmtF 20 N ByteArray.empty = acc := by rw [hx]; cases m <;> simp [fmtF]
      rw [hx]
      (repeat' ((conv => whnf); first | refine Br.tt ?_ | refine Br.ff ?_ | refine Br.pos (by assumption) ?_ | refine Br.neg (by assumption) ?_ | refine Br.bself ?_ | refine Br.dself ?_ | refine Br.iself ?_ | refine Nm.mk lenC ?_ | refine Nm.mk (wrapI (by (first | omega | (simp [inR_t, inR_f] at *; omega))) (by (first | omega | (simp [inR_t, inR_f] at *; omega)))) ?_ | refine Nm.mk (wrapQ (by (first | omega | (simp [inR_t, inR_f] at *; omega))) (by (first | omega | (simp [inR_t, inR_f] at *; omega))) (by (first | omega | (simp [inR_t, inR_f] at *; omega)))) ?_ | refine Nm.mk (tmodN (by (first | omega | (simp [inR_t, inR_f] at *; omega)))) ?_ | refine Nm.mk (szS _) ?_ | refine Nm.mk (mi_eq _ _) ?_ | refine Nm.mk (ma_eq _ _) ?_ | refine Rq.mk (by first | (simp [dOwnL, dOwn] <;> fail) | (first | omega | (simp [inR_t, inR_f] at *; omega))) ?_ | refine And.intro (orderFast (by kernel_rfl)) ?_ | refine And.intro (by kernel_rfl) ?_ | refine Rq.mk (str_room (Nat.le_of_ble_eq_true rfl) (by omega)) ?_ | refine Cl.pre (by simp only [shcLL_ints, shcLL_byts, shcLL_strs, Mani.shcs, Name.shcs, Segm.shcs]; rfl) ?_))
      exact Vs.Fin.mk (WkR.refl _) (.refl _)
    · obtain ⟨q, rfl⟩ : ∃ q, m = q + 1 := ⟨m - 1, by cases m <;> simp_all⟩
      have f1 : (-((x : Nat) : Int) != 0) = true := by simp; omega
      have e1 : Int.tmod (-((x : Nat) : Int)) 10 = -((x % 10 : Nat) : Int) := by rw [Int.neg_tmod]; norm_cast
      have e2 : Int.tdiv (-((x : Nat) : Int)) 10 = -((x / 10 : Nat) : Int) := by rw [Int.neg_tdiv]; norm_cast
      have hd : x % 10 < 10 := Nat.mod_lt _ (by omega)
      have hnx : fmtF (q + 1) x acc = fmtF q (x / 10) (dgB (x % 10) ++ acc) := by rw [fmtF, if_neg hz]
      rw [hnx] at hx
      have hdg : (dgB (x % 10)).size = 1 := rfl
      have hp : x / 10 < 10 ^ q := by rw [Nat.div_lt_iff_lt_mul (by omega)]; rw [Nat.pow_succ] at hxm; exact hxm
      by_cases hd0 : x % 10 = 0
      · have f2 : decide (-((x % 10 : Nat) : Int) < 0) = false := by simp; omega
        rw [hd0] at e1 f2 hx
        (repeat' ((conv => whnf); first | refine Br.tt ?_ | refine Br.ff ?_ | refine Br.pos (by assumption) ?_ | refine Br.neg (by assumption) ?_ | refine Br.bself ?_ | refine Br.dself ?_ | refine Br.iself ?_ | refine Nm.mk lenC ?_ | refine Nm.mk (wrapI (by (first | omega | (simp [inR_t, inR_f] at *; omega))) (by (first | omega | (simp [inR_t, inR_f] at *; omega)))) ?_ | refine Nm.mk (wrapQ (by (first | omega | (simp [inR_t, inR_f] at *; omega))) (by (first | omega | (simp [inR_t, inR_f] at *; omega))) (by (first | omega | (simp [inR_t, inR_f] at *; omega)))) ?_ | refine Nm.mk (tmodN (by (first | omega | (simp [inR_t, inR_f] at *; omega)))) ?_ | refine Nm.mk (szS _) ?_ | refine Nm.mk (mi_eq _ _) ?_ | refine Nm.mk (ma_eq _ _) ?_ | refine Rq.mk (by first | (simp [dOwnL, dOwn] <;> fail) | (first | omega | (simp [inR_t, inR_f] at *; omega))) ?_ | refine And.intro (orderFast (by kernel_rfl)) ?_ | refine And.intro (by kernel_rfl) ?_ | refine Nm.mk e1 ?_ | refine Nm.mk (by rw [e2]; exact wrapI (by omega) (by omega)) ?_ | refine Nm.mk (wrap8n (d := 0) (by omega)) ?_ | refine Rq.mk (el1 _) ?_ | refine Rq.mk (str_room (Nat.le_of_ble_eq_true rfl) (by omega)) ?_ | refine Cl.pre (by simp only [shcLL_ints, shcLL_byts, shcLL_strs, Mani.shcs, Name.shcs, Segm.shcs]; rfl) ?_))
        refine Nx.intro q (by omega) _ (WkS.weak _ _) ⟨x / 10, _, hx, hp, by omega, by rw [ByteArray.size_append]; have : (dgB 0).size = 1 := rfl; omega, ?_⟩
        (repeat' (first | exact rfl | refine consE ?_ ?_ | refine entE ?_ | refine vI ?_ | refine vS ?_ | refine vT ?_ | refine vB ?_))
        all_goals first | exact e2 | exact congrArg (· ++ acc) (dg_eq _)
      · have f2 : decide (-((x % 10 : Nat) : Int) < 0) = true := by simp; omega
        have e3 : (0 : Int) - -((x % 10 : Nat) : Int) = ((x % 10 : Nat) : Int) := by omega
        (repeat' ((conv => whnf); first | refine Br.tt ?_ | refine Br.ff ?_ | refine Br.pos (by assumption) ?_ | refine Br.neg (by assumption) ?_ | refine Br.bself ?_ | refine Br.dself ?_ | refine Br.iself ?_ | refine Nm.mk lenC ?_ | refine Nm.mk (wrapI (by (first | omega | (simp [inR_t, inR_f] at *; omega))) (by (first | omega | (simp [inR_t, inR_f] at *; omega)))) ?_ | refine Nm.mk (wrapQ (by (first | omega | (simp [inR_t, inR_f] at *; omega))) (by (first | omega | (simp [inR_t, inR_f] at *; omega))) (by (first | omega | (simp [inR_t, inR_f] at *; omega)))) ?_ | refine Nm.mk (tmodN (by (first | omega | (simp [inR_t, inR_f] at *; omega)))) ?_ | refine Nm.mk (szS _) ?_ | refine Nm.mk (mi_eq _ _) ?_ | refine Nm.mk (ma_eq _ _) ?_ | refine Rq.mk (by first | (simp [dOwnL, dOwn] <;> fail) | (first | omega | (simp [inR_t, inR_f] at *; omega))) ?_ | refine And.intro (orderFast (by kernel_rfl)) ?_ | refine And.intro (by kernel_rfl) ?_ | refine Nm.mk e1 ?_ | refine Nm.mk (by rw [e2]; exact wrapI (by omega) (by omega)) ?_ | refine Nm.mk (m := ((UInt8.ofNat (48 + x % 10)).toNat : Int)) (by rw [e3]; exact wrap8n hd) ?_ | refine Rq.mk (el1 _) ?_ | refine Rq.mk (str_room (Nat.le_of_ble_eq_true rfl) (by omega)) ?_ | refine Cl.pre (by simp only [shcLL_ints, shcLL_byts, shcLL_strs, Mani.shcs, Name.shcs, Segm.shcs]; rfl) ?_))
        refine Nx.intro q (by omega) _ (WkS.weak _ _) ⟨x / 10, _, hx, hp, by omega, by rw [ByteArray.size_append]; omega, ?_⟩
        (repeat' (first | exact rfl | refine consE ?_ ?_ | refine entE ?_ | refine vI ?_ | refine vS ?_ | refine vT ?_ | refine vB ?_))
        all_goals first | exact e2 | exact congrArg (· ++ acc) (dg_eq _)
  · have f9 : decide (n < 0) = false := by simpa using hneg
    have hN : n = ((n.natAbs : Nat) : Int) := by omega
    have hR : fmtI n = fmtF 20 n.natAbs ByteArray.empty := by unfold fmtI; rw [if_neg h0, if_neg hneg]
    rw [hR]
    have hb : n.natAbs < 10 ^ 20 := by omega
    generalize n.natAbs = N at hN hb ⊢
    subst hN
    (repeat' ((conv => whnf); first | refine Br.tt ?_ | refine Br.ff ?_ | refine Br.pos (by assumption) ?_ | refine Br.neg (by assumption) ?_ | refine Br.bself ?_ | refine Br.dself ?_ | refine Br.iself ?_ | refine Nm.mk lenC ?_ | refine Nm.mk (wrapI (by (first | omega | (simp [inR_t, inR_f] at *; omega))) (by (first | omega | (simp [inR_t, inR_f] at *; omega)))) ?_ | refine Nm.mk (wrapQ (by (first | omega | (simp [inR_t, inR_f] at *; omega))) (by (first | omega | (simp [inR_t, inR_f] at *; omega))) (by (first | omega | (simp [inR_t, inR_f] at *; omega)))) ?_ | refine Nm.mk (tmodN (by (first | omega | (simp [inR_t, inR_f] at *; omega)))) ?_ | refine Nm.mk (szS _) ?_ | refine Nm.mk (mi_eq _ _) ?_ | refine Nm.mk (ma_eq _ _) ?_ | refine Rq.mk (by first | (simp [dOwnL, dOwn] <;> fail) | (first | omega | (simp [inR_t, inR_f] at *; omega))) ?_ | refine And.intro (orderFast (by kernel_rfl)) ?_ | refine And.intro (by kernel_rfl) ?_ ))
    refine Lp.mk [.sl 0, .sl 3, .sl 4] (fun m σ => ∃ x acc, fmtF 20 N ByteArray.empty = fmtF m x acc ∧ x < 10 ^ m ∧ x ≤ 9223372036854775808 ∧ acc.size + m = 20 ∧ σ = [Sa 0 (I (N : Int)), Sa 3 (S acc), Sa 4 (I (x : Int))]) (20) _ (WkS.weak _ _) ⟨N, ByteArray.empty, rfl, hb, by omega, rfl, (by first | rfl | (simp only [zlen, zsum, Nat.zero_mul, Int.add_zero, Int.sub_zero, List.nil_append, markG]; rfl))⟩ ?_
    rintro m τ ⟨x, acc, hx, hxm, hxb, hsz, rfl⟩
    by_cases hz : x = 0
    · subst hz
      have hx : fmtF 20 N ByteArray.empty = acc := by rw [hx]; cases m <;> simp [fmtF]
      rw [hx]
      (repeat' ((conv => whnf); first | refine Br.tt ?_ | refine Br.ff ?_ | refine Br.pos (by assumption) ?_ | refine Br.neg (by assumption) ?_ | refine Br.bself ?_ | refine Br.dself ?_ | refine Br.iself ?_ | refine Nm.mk lenC ?_ | refine Nm.mk (wrapI (by (first | omega | (simp [inR_t, inR_f] at *; omega))) (by (first | omega | (simp [inR_t, inR_f] at *; omega)))) ?_ | refine Nm.mk (wrapQ (by (first | omega | (simp [inR_t, inR_f] at *; omega))) (by (first | omega | (simp [inR_t, inR_f] at *; omega))) (by (first | omega | (simp [inR_t, inR_f] at *; omega)))) ?_ | refine Nm.mk (tmodN (by (first | omega | (simp [inR_t, inR_f] at *; omega)))) ?_ | refine Nm.mk (szS _) ?_ | refine Nm.mk (mi_eq _ _) ?_ | refine Nm.mk (ma_eq _ _) ?_ | refine Rq.mk (by first | (simp [dOwnL, dOwn] <;> fail) | (first | omega | (simp [inR_t, inR_f] at *; omega))) ?_ | refine And.intro (orderFast (by kernel_rfl)) ?_ | refine And.intro (by kernel_rfl) ?_ | refine Rq.mk (str_room (Nat.le_of_ble_eq_true rfl) (by omega)) ?_ | refine Cl.pre (by simp only [shcLL_ints, shcLL_byts, shcLL_strs, Mani.shcs, Name.shcs, Segm.shcs]; rfl) ?_))
      exact Vs.Fin.mk (WkR.refl _) (.refl _)
    · obtain ⟨q, rfl⟩ : ∃ q, m = q + 1 := ⟨m - 1, by cases m <;> simp_all⟩
      have f1 : ((x : Int) != 0) = true := by simp; omega
      have e1 : Int.tmod ((x : Nat) : Int) 10 = ((x % 10 : Nat) : Int) := by norm_cast
      have e2 : Int.tdiv ((x : Nat) : Int) 10 = ((x / 10 : Nat) : Int) := by norm_cast
      have hd : x % 10 < 10 := Nat.mod_lt _ (by omega)
      have hnx : fmtF (q + 1) x acc = fmtF q (x / 10) (dgB (x % 10) ++ acc) := by rw [fmtF, if_neg hz]
      rw [hnx] at hx
      have hdg : (dgB (x % 10)).size = 1 := rfl
      have hp : x / 10 < 10 ^ q := by rw [Nat.div_lt_iff_lt_mul (by omega)]; rw [Nat.pow_succ] at hxm; exact hxm
      have f2 : decide (((x % 10 : Nat) : Int) < 0) = false := decide_eq_false (by omega)
      (repeat' ((conv => whnf); first | refine Br.tt ?_ | refine Br.ff ?_ | refine Br.pos (by assumption) ?_ | refine Br.neg (by assumption) ?_ | refine Br.bself ?_ | refine Br.dself ?_ | refine Br.iself ?_ | refine Nm.mk lenC ?_ | refine Nm.mk (wrapI (by (first | omega | (simp [inR_t, inR_f] at *; omega))) (by (first | omega | (simp [inR_t, inR_f] at *; omega)))) ?_ | refine Nm.mk (wrapQ (by (first | omega | (simp [inR_t, inR_f] at *; omega))) (by (first | omega | (simp [inR_t, inR_f] at *; omega))) (by (first | omega | (simp [inR_t, inR_f] at *; omega)))) ?_ | refine Nm.mk (tmodN (by (first | omega | (simp [inR_t, inR_f] at *; omega)))) ?_ | refine Nm.mk (szS _) ?_ | refine Nm.mk (mi_eq _ _) ?_ | refine Nm.mk (ma_eq _ _) ?_ | refine Rq.mk (by first | (simp [dOwnL, dOwn] <;> fail) | (first | omega | (simp [inR_t, inR_f] at *; omega))) ?_ | refine And.intro (orderFast (by kernel_rfl)) ?_ | refine And.intro (by kernel_rfl) ?_ | refine Nm.mk e1 ?_ | refine Nm.mk (by rw [e2]; exact wrapI (by omega) (by omega)) ?_ | refine Nm.mk (wrap8n hd) ?_ | refine Rq.mk (el1 _) ?_ | refine Rq.mk (str_room (Nat.le_of_ble_eq_true rfl) (by omega)) ?_ | refine Cl.pre (by simp only [shcLL_ints, shcLL_byts, shcLL_strs, Mani.shcs, Name.shcs, Segm.shcs]; rfl) ?_))
      refine Nx.intro q (by omega) _ (WkS.weak _ _) ⟨x / 10, _, hx, hp, by omega, by rw [ByteArray.size_append]; omega, ?_⟩
      (repeat' (first | exact rfl | refine consE ?_ ?_ | refine entE ?_ | refine vI ?_ | refine vS ?_ | refine vT ?_ | refine vB ?_))
      all_goals first | exact e2 | exact congrArg (· ++ acc) (dg_eq _)
end Go.Proofs.YtgcnbfplihjelaaGreatDoor
