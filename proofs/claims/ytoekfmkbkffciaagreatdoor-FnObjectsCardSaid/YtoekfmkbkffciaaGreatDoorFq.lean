/- Contracts of functions of the program: no statement of the seat is proved here. Each under the conditions that stand in it. -/
import Derived.Test.YtoekfmkbkffciaaGreatDoorFp
set_option linter.all false
namespace Go.Proofs.YtoekfmkbkffciaaGreatDoor
open Go.Vs Go.Proofs
/-! Codes of numbers -/
theorem or_128 {x : Nat} (h : x < 128) : x ||| 128 = x + 128 := by
  have := Nat.two_pow_add_eq_or_of_lt (i := 7) (b := x) (by omega) 1
  rw [Nat.or_comm]
  simp at this
  omega
set_option maxRecDepth 20000 in
theorem or_256 (x : Nat) (h : x < 256) : x ||| 128 = x % 128 + 128 := by
  have key : ∀ y : Fin 256, y.val ||| 128 = y.val % 128 + 128 := by decide
  exact key ⟨x, h⟩
theorem and_127 (x : Nat) : x &&& 127 = x % 128 := Nat.and_two_pow_sub_one_eq_mod x 7
theorem and64_127 {a : Nat} (ha : a < 9223372036854775808) : IntKind.wrap .i64 ((BitVec.ofInt (IntKind.bits .i64) (a : Int) &&& BitVec.ofInt (IntKind.bits .i64) 127).toNat : Int) = ((a % 128 : Nat) : Int) := by
  have := and64 (a := a) (b := 127) ha (by decide)
  rw [and_127] at this
  exact this
theorem or64_128 {a : Nat} (ha : a < 128) : IntKind.wrap .i64 ((BitVec.ofInt (IntKind.bits .i64) (a : Int) ||| BitVec.ofInt (IntKind.bits .i64) 128).toNat : Int) = ((a + 128 : Nat) : Int) := by
  have := or64 (a := a) (b := 128) (by omega) (by decide)
  rw [or_128 ha] at this
  exact this
theorem wrap8 {a : Nat} : IntKind.wrap .u8 (a : Int) = ((UInt8.ofNat a).toNat : Int) := by
  unfold IntKind.wrap
  simp [IntKind.signed, IntKind.bits, UInt8.toNat_ofNat']
theorem or8_128 (x : UInt8) : IntKind.wrap .u8 ((BitVec.ofInt (IntKind.bits .u8) (x.toNat : Int) ||| BitVec.ofInt (IntKind.bits .u8) 128).toNat : Int) = ((UInt8.ofNat (x.toNat % 128 + 128)).toNat : Int) := by
  have hx := x.toNat_lt
  have e : (BitVec.ofInt (IntKind.bits .u8) (x.toNat : Int) ||| BitVec.ofInt (IntKind.bits .u8) 128).toNat = x.toNat % 128 + 128 := by
    show (BitVec.ofInt 8 (x.toNat : Int) ||| BitVec.ofInt 8 128).toNat = _
    rw [BitVec.toNat_or, BitVec.toNat_ofInt, BitVec.toNat_ofInt]
    have h1 : ((x.toNat : Int) % ((2 ^ 8 : Nat) : Int)).toNat = x.toNat := by omega
    rw [h1]
    exact or_256 _ hx
  rw [e, wrap8]
theorem shr64_7 {a : Nat} : Int.fdiv (a : Int) (2 ^ (min (7 : Int).toNat (IntKind.bits .i64))) = ((a / 128 : Nat) : Int) := shr64 (a := a) (b := 7) (by omega)
/-- A number's code, seven bits a byte. -/
def vint (n : Nat) : List UInt8 := if n < 128 then [UInt8.ofNat n] else UInt8.ofNat (n % 128 + 128) :: vint (n / 128)
termination_by n
decreasing_by omega
theorem vint_lt {n : Nat} (h : n < 128) : vint n = [UInt8.ofNat n] := by rw [vint, if_pos h]
theorem vint_ge {n : Nat} (h : ¬ n < 128) : vint n = UInt8.ofNat (n % 128 + 128) :: vint (n / 128) := by rw [vint, if_neg h]
theorem vint_len : ∀ (k n : Nat), n < 128 ^ (k + 1) → (vint n).length ≤ k + 1
  | 0, n, h => by rw [vint_lt (by omega)]; simp
  | k + 1, n, h => by
    by_cases h1 : n < 128
    · rw [vint_lt h1]; simp
    · rw [vint_ge h1]
      have := vint_len k (n / 128) (by rw [Nat.div_lt_iff_lt_mul (by omega)]; rw [Nat.pow_succ] at h; exact h)
      simp; omega
def evi (n : Int) : List UInt8 := if inR n 0 1000000000000 then vint n.toNat else []
theorem evi_len (n : Int) : (evi n).length ≤ 6 := by
  unfold evi
  split
  · rename_i h
    simp [inR_t] at h
    exact vint_len 5 n.toNat (by omega)
  · simp
theorem is105 : FI 105 Tryz.f105 := ⟨⟨Tryz.f105, Tryz.func105, rfl, rfl, rfl, rfl⟩, rfl⟩
set_option maxRecDepth 20000 in
set_option maxHeartbeats 16000000 in
theorem s_AppendVarint (b : List UInt8) (n : Int) (hb : b.length ≤ 104857600) : FO 105 [Ys false b, I n] [Ys false b, I n] (Ys true (b ++ evi n)) := by
  refine fok envOk mixed is105 ⟨rfl, rfl, ?_⟩
  (repeat' ((conv => whnf); first | refine stp ?_ | refine Br.mk (fun _ => ?_) (fun _ => ?_) | refine Cl.mk (s_l1In _ _ _) ?_ | refine Cl.pre (by simp only [shcLL_ints, shcLL_byts, shcLL_strs, Fetc.shcs, Mani.shcs, Name.shcs, Segm.shcs]; rfl) ?_))
  · refine Vs.Fin.mk (WkR.of (.sl1 ?_ .nil)) (.refl _)
    simp_all [evi]
  have hn : 0 ≤ n ∧ n ≤ 1000000000000 := by simp [inR_t] at *; omega
  have he : evi n = vint n.toNat := by simp_all [evi]
  obtain ⟨a, rfl⟩ : ∃ a : Nat, n = a := ⟨n.toNat, by omega⟩
  rw [Int.toNat_natCast] at he
  have hlen := vint_len 5 a (by omega)
  refine Lp.mk [.sl 1, .sl 5] (fun m σ => ∃ p k, vint a = p ++ vint k ∧ m = k ∧ k ≤ 1000000000000 ∧ σ = [Sa 1 (I k), Sa 5 (O (.sl true .non 1 (byts (b ++ p))))]) (a) _ (WkS.weak _ _) ⟨[], a, rfl, rfl, by omega, (by first | rfl | (simp only [zlen, zsum, Nat.zero_mul, Int.add_zero, Int.sub_zero, List.nil_append, markG, List.append_nil]; rfl))⟩ ?_
  rintro m τ ⟨p, k, hp, rfl, hk, rfl⟩
  have hl2 : p.length + (vint m).length = (vint a).length := by rw [hp]; simp
  refine Br.dec (fun h => ?_) (fun h => ?_)
  · rw [vint_ge (n := m) (by omega)] at hp hl2
    simp at hl2
    refine Nm.mk (and64_127 (by omega)) ?_
    refine Nm.mk (or64_128 (by omega)) ?_
    refine Nm.mk wrap8 ?_
    refine Rq.mk (by simp; omega) ?_
    refine Rq.mk (by decide) ?_
    refine Nm.mk shr64_7 ?_
    refine Nx.intro (m / 128) (by omega) _ (WkS.weak _ _) ⟨p ++ [UInt8.ofNat (m % 128 + 128)], m / 128, by rw [hp]; simp, rfl, by omega, ?_⟩
    (repeat' (first | exact rfl | refine consE ?_ ?_ | refine entE ?_ | refine vI ?_ | refine vS ?_ | refine vT ?_ | refine vB ?_))
    simp
  · rw [vint_lt (n := m) (by omega)] at hp hl2
    simp at hl2
    refine Nm.mk wrap8 ?_
    refine Rq.mk (by simp; omega) ?_
    refine ⟨rfl, WkR.of (.sl1 ?_ .nil), .refl _⟩
    rw [he, hp]; simp
theorem is86 : FI 86 Tryz.f86 := ⟨⟨Tryz.f86, Tryz.func86, rfl, rfl, rfl, rfl⟩, rfl⟩
set_option maxRecDepth 20000 in
set_option maxHeartbeats 16000000 in
theorem i_AppendVarint (b : List UInt8) (n : Int) (hb : b.length ≤ 1048576) : FO 86 [Ys false b, I n] [Ys false b, I n] (Ys true (b ++ evi n)) := by
  refine fok envOk mixed is86 ⟨rfl, rfl, ?_⟩
  (repeat' ((conv => whnf); first | refine stp ?_ | refine Br.mk (fun _ => ?_) (fun _ => ?_) | refine Cl.mk (Clone_byte b hb) ?_ | refine Cl.mk (i_InRange _ _ _) ?_ | refine Cl.pre (by simp only [shcLL_ints, shcLL_byts, shcLL_strs, Fetc.shcs, Mani.shcs, Name.shcs, Segm.shcs]; rfl) ?_))
  · refine Vs.Fin.mk (WkR.of (.sl1 ?_ .nil)) (.refl _)
    simp_all [evi]
  have hn : 0 ≤ n ∧ n ≤ 1000000000000 := by simp [inR_t] at *; omega
  have he : evi n = vint n.toNat := by simp_all [evi]
  obtain ⟨a, rfl⟩ : ∃ a : Nat, n = a := ⟨n.toNat, by omega⟩
  rw [Int.toNat_natCast] at he
  have hlen := vint_len 5 a (by omega)
  refine Lp.mk [.sl 1, .sl 5] (fun m σ => ∃ p k, vint a = p ++ vint k ∧ m = k ∧ k ≤ 1000000000000 ∧ σ = [Sa 1 (I k), Sa 5 (Ys true (b ++ p))]) (a) _ (WkS.weak _ _) ⟨[], a, rfl, rfl, by omega, (by first | rfl | (simp only [zlen, zsum, Nat.zero_mul, Int.add_zero, Int.sub_zero, List.nil_append, markG, List.append_nil]; rfl))⟩ ?_
  rintro m τ ⟨p, k, hp, rfl, hk, rfl⟩
  have hl2 : p.length + (vint m).length = (vint a).length := by rw [hp]; simp
  refine Br.dec (fun h => ?_) (fun h => ?_)
  · rw [vint_ge (n := m) (by omega)] at hp hl2
    simp at hl2
    refine Nm.mk wrap8 ?_
    refine Nm.mk (or8_128 _) ?_
    refine Rq.mk (by simp; omega) ?_
    refine Rq.mk (by decide) ?_
    refine Nm.mk shr64_7 ?_
    have e : UInt8.ofNat ((UInt8.ofNat m).toNat % 128 + 128) = UInt8.ofNat (m % 128 + 128) := by
      rw [UInt8.toNat_ofNat']; congr 2; omega
    refine Nx.intro (m / 128) (by omega) _ (WkS.weak _ _) ⟨p ++ [UInt8.ofNat (m % 128 + 128)], m / 128, by rw [hp]; simp, rfl, by omega, ?_⟩
    (repeat' (first | exact rfl | refine consE ?_ ?_ | refine entE ?_ | refine vI ?_ | refine vS ?_ | refine vT ?_ | refine vB ?_))
    rw [e]; simp
  · rw [vint_lt (n := m) (by omega)] at hp hl2
    simp at hl2
    refine Nm.mk wrap8 ?_
    refine Rq.mk (by simp; omega) ?_
    refine ⟨rfl, WkR.of (.sl1 ?_ .nil), .refl _⟩
    rw [he, hp]; simp
def encs (l : List Int) : List UInt8 := l.flatMap evi
theorem encs_len (l : List Int) : (encs l).length ≤ 6 * l.length := by
  induction l with
  | nil => simp [encs]
  | cons x l ih =>
    have := evi_len x
    simp [encs] at *; omega
theorem encs_snoc (l : List Int) (x : Int) : encs (l ++ [x]) = encs l ++ evi x := by simp [encs]
theorem is56 : FI 56 Tryz.f56 := ⟨⟨Tryz.f56, Tryz.func56, rfl, rfl, rfl, rfl⟩, rfl⟩
set_option maxRecDepth 20000 in
set_option maxHeartbeats 16000000 in
theorem i_EncodeInts (l : List Int) (hl : l.length ≤ 104857) : FO 56 [Is false l] [Is false l] (Ys true (encs l)) := by
  refine fok envOk mixed is56 ⟨rfl, rfl, ?_⟩
  refine Nm.mk lenC ?_
  refine Lp.mk [.sl 3, .sl 7, .sl 8, .sl 9] (fun m σ => ∃ d r, l = d ++ r ∧ m = r.length ∧ σ = [Sa 3 (Ys true (encs d)), Sa 7 (Is false l), Sa 8 (I l.length), Sa 9 (I d.length)]) (l.length) _ (.cons (.top .nil) (.cons (.refl _) (.cons (.refl _) (.cons (.refl _) .nil)))) ⟨[], l, rfl, rfl, (by first | rfl | (simp only [zlen, zsum, Nat.zero_mul, Int.add_zero, Int.sub_zero, List.nil_append, markG]; rfl))⟩ ?_
  rintro m τ ⟨d, r, rfl, rfl, rfl⟩
  have he := encs_len d
  cases r with
  | nil =>
    refine Br.neg (by simp) ?_
    (repeat' ((conv => whnf); first | refine stp ?_ | refine Br.mk (fun _ => ?_) (fun _ => ?_) ))
    refine Vs.Fin.mk (WkR.eq ?_) (.refl _)
    simp
  | cons x r =>
    simp at hl
    refine Br.pos (by simp; omega) ?_
    refine Rq.mk ⟨by omega, by simp; omega⟩ ?_
    refine El.mk (getA rfl) ?_
    (repeat' ((conv => whnf); first | refine stp ?_ | refine Cl.mk (i_AppendVarint (encs d) x (by omega)) ?_ | refine Cl.pre (by simp only [shcLL_ints, shcLL_byts, shcLL_strs, Fetc.shcs, Mani.shcs, Name.shcs, Segm.shcs]; rfl) ?_))
    refine Nx.intro r.length (by simp) _ (WkS.weak _ _) ⟨d ++ [x], r, by simp, rfl, ?_⟩
    rw [len1, encs_snoc]; rfl
def rdV : List UInt8 → Nat → Nat → Option (Nat × Nat)
  | [], _, _ => none
  | c :: r, k, n =>
    if k < 6 then
      (if c.toNat < 128 then (if (c.toNat = 0 ∧ 0 < k) ∨ 1000000000000 < n + c.toNat % 128 * 2 ^ (7 * k) then none else some (n + c.toNat % 128 * 2 ^ (7 * k), k + 1))
       else rdV r (k + 1) (n + c.toNat % 128 * 2 ^ (7 * k)))
    else none
theorem rdV_six (l : List UInt8) (n : Nat) : rdV l 6 n = none := by cases l <;> simp [rdV]
abbrev T3 (a b : Int) (c : Bool) : Arg := (.tup [(false, 1), (false, 1), (false, 1)], [cI a, cI b, cB c])
def rdN (o : Option (Nat × Nat)) : Int := match o with | some (n, _) => n | none => 0
def rdC (q : Nat) (o : Option (Nat × Nat)) : Int := match o with | some (_, c) => (q + c : Nat) | none => 0
theorem shl64 {a j : Nat} (hj : j ≤ 63) (h : a * 2 ^ j < 9223372036854775808) : IntKind.wrap .i64 ((a : Int) * 2 ^ (min (j : Int).toNat (IntKind.bits .i64))) = ((a * 2 ^ j : Nat) : Int) := by
  have e : min (j : Int).toNat (IntKind.bits .i64) = j := by
    show min (j : Int).toNat 64 = j
    omega
  have e2 : (a : Int) * 2 ^ j = ((a * 2 ^ j : Nat) : Int) := by norm_cast
  rw [e, e2]
  exact wrapI (by omega) (by omega)
theorem or_sh {n x j : Nat} (h : n < 2 ^ j) : n ||| x * 2 ^ j = n + x * 2 ^ j := by
  have := Nat.two_pow_add_eq_or_of_lt h x
  rw [Nat.or_comm, Nat.mul_comm x, ← this, Nat.add_comm]
theorem rd_b {k n c : Nat} (hk : k < 6) (hn : n < 2 ^ (7 * k)) : 2 ^ (7 * k) ≤ 34359738368 ∧ c % 128 * 2 ^ (7 * k) ≤ 4363686772736 ∧ n + c % 128 * 2 ^ (7 * k) < 2 ^ (7 * (k + 1)) := by
  have h1 : 2 ^ (7 * k) ≤ 2 ^ 35 := Nat.pow_le_pow_right (by omega) (by omega)
  have h2 : c % 128 * 2 ^ (7 * k) ≤ 127 * 2 ^ (7 * k) := Nat.mul_le_mul_right _ (by omega)
  have h3 : 2 ^ (7 * (k + 1)) = 2 ^ (7 * k) * 128 := by rw [show 7 * (k + 1) = 7 * k + 7 by omega, Nat.pow_add]
  rw [h3]
  omega
theorem is64 : FI 64 Tryz.f64 := ⟨⟨Tryz.f64, Tryz.func64, rfl, rfl, rfl, rfl⟩, rfl⟩
set_option maxRecDepth 20000 in
set_option maxHeartbeats 16000000 in
theorem i_ReadVarint (b : List UInt8) (q : Nat) (hb : b.length ≤ 1048576) (hq : q ≤ b.length) : FO 64 [Ys false b, I q] [Ys false b, I q] (T3 (rdN (rdV (b.drop q) 0 0)) (rdC q (rdV (b.drop q) 0 0)) (rdV (b.drop q) 0 0).isSome) := by
  refine fok envOk mixed is64 ⟨rfl, rfl, ?_⟩
  have f0 : decide ((q : Int) < 0) = false := by simp
  have e00 : ((b.take q).length : Int) = q := by simp; omega
  (repeat' ((conv => whnf); first | refine stp ?_ ))
  refine Lp.mk [.sl 0, .sl 1, .sl 7, .sl 8] (fun m σ => ∃ d r n k, b = d ++ r ∧ d.length = q + k ∧ rdV (b.drop q) 0 0 = rdV r k n ∧ n < 2 ^ (7 * k) ∧ k + m = 6 ∧ σ = [Sa 0 (Ys false b), Sa 1 (I d.length), Sa 7 (I n), Sa 8 (I k)]) (6) _ (WkS.weak _ _) ⟨b.take q, b.drop q, 0, 0, (List.take_append_drop q b).symm, by simp; omega, rfl, by simp, rfl, (by first | rfl | (simp only [zlen, zsum, Nat.zero_mul, Int.add_zero, Int.sub_zero, List.nil_append, markG, e00]; rfl))⟩ ?_
  rintro m τ ⟨d, r, n, k, hd, hl, hrd, hn, hm, rfl⟩
  rw [hrd]
  have hbl : b.length = d.length + r.length := by rw [hd]; simp
  have hq9 : (b.take q).length = q := by simp; omega
  have e6 : ¬ (k < 6 ∧ 0 < r.length) → rdV r k n = none := by
    intro h6
    cases r with
    | nil => rfl
    | cons c r =>
      obtain rfl : k = 6 := by simp at h6; omega
      exact rdV_six _ _
  by_cases hk6 : k < 6
  · have f1 : decide ((k : Int) < 6) = true := by simp; omega
    cases r with
    | nil =>
      have f2 : decide ((d.length : Int) < (b.length : Int)) = false := by simp at *; omega
      rw [e6 (by simp)]
      (repeat' ((conv => whnf); first | refine stp ?_ | refine Br.mk (fun _ => ?_) (fun _ => ?_) ))
      refine Vs.Fin.mk (WkR.eq ?_) (.refl _)
      simp [rdN, rdC]
    | cons c r =>
      simp at hbl
      have f2 : decide ((d.length : Int) < (b.length : Int)) = true := by simp; omega
      have hc := c.toNat_lt
      have hB := rd_b (c := c.toNat) hk6 hn
      (repeat' ((conv => whnf); first | refine stp ?_ ))
      refine El.mk (getH hd (by omega)) ?_
      refine Nm.mk (wrapI (by omega) (by omega)) ?_
      refine Nm.mk (wrapI (by omega) (by omega)) ?_
      refine Nm.mk (and64_127 (by omega)) ?_
      refine Nm.mk (m := ((7 * k : Nat) : Int)) (by rw [wrapI (by omega) (by omega)]; norm_cast) ?_
      refine Rq.mk (by omega) ?_
      refine Nm.mk (shl64 (by omega) (by omega)) ?_
      refine Nm.mk (or64 (by omega) (by omega)) ?_
      rw [or_sh hn]
      have e1 : rdV (c :: r) k n = if c.toNat < 128 then (if (c.toNat = 0 ∧ 0 < k) ∨ 1000000000000 < n + c.toNat % 128 * 2 ^ (7 * k) then none else some (n + c.toNat % 128 * 2 ^ (7 * k), k + 1)) else rdV r (k + 1) (n + c.toNat % 128 * 2 ^ (7 * k)) := by rw [rdV, if_pos hk6]
      have hN2 := hB.2.2
      generalize n + c.toNat % 128 * 2 ^ (7 * k) = N at e1 hN2 ⊢
      by_cases h9 : c.toNat < 128
      · rw [if_pos h9] at e1
        rw [e1]
        have f3 : decide ((c.toNat : Int) < 128) = true := by simp; omega
        (repeat' ((conv => whnf); first | refine stp ?_ | refine Br.mk (fun _ => ?_) (fun _ => ?_) ))
        all_goals
          refine Vs.Fin.mk (WkR.eq ?_) (.refl _)
          rename_i hz
          first
            | (rw [if_pos (by simp at *; omega)]; simp [rdN, rdC]; done)
            | (rw [if_neg (by simp at *; omega)]; simp [rdN, rdC]; try omega)
      · rw [if_neg h9] at e1
        have f3 : decide ((c.toNat : Int) < 128) = false := by simp; omega
        (repeat' ((conv => whnf); first | refine stp ?_ ))
        refine Nx.intro (m - 1) (by omega) _ (WkS.weak _ _) ⟨d ++ [c], r, N, k + 1, by simp [hd], by simp; omega, e1, by omega, by omega, ?_⟩
        rw [show ((d ++ [c]).length : Int) = (d.length : Int) + 1 by simp]
        rfl
  · have f1 : decide ((k : Int) < 6) = false := by simp; omega
    rw [e6 (by omega)]
    (repeat' ((conv => whnf); first | refine stp ?_ | refine Br.mk (fun _ => ?_) (fun _ => ?_) ))
    refine Vs.Fin.mk (WkR.eq ?_) (.refl _)
    simp [rdN, rdC]
end Go.Proofs.YtoekfmkbkffciaaGreatDoor
