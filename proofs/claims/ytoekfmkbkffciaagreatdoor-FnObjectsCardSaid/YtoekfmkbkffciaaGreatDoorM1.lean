/- Contracts of functions of the program: no statement of the seat is proved here. Each under the conditions that stand in it. -/
import Derived.Test.YtoekfmkbkffciaaGreatDoorFn
import Derived.Test.YtoekfmkbkffciaaGreatDoorFl
set_option linter.all false
namespace Go.Proofs.YtoekfmkbkffciaaGreatDoor
open Go.Vs Go.Proofs
/-! Bits -/
theorem ofInt64 {a : Nat} (h : a < 9223372036854775808) : (BitVec.ofInt 64 (a : Int)).toNat = a := by
  rw [BitVec.toNat_ofInt]
  omega
theorem and64 {a b : Nat} (ha : a < 9223372036854775808) (hb : b < 9223372036854775808) :
    IntKind.wrap .i64 ((BitVec.ofInt (IntKind.bits .i64) (a : Int) &&& BitVec.ofInt (IntKind.bits .i64) (b : Int)).toNat : Int) = ((a &&& b : Nat) : Int) := by
  have e : (BitVec.ofInt (IntKind.bits .i64) (a : Int) &&& BitVec.ofInt (IntKind.bits .i64) (b : Int)).toNat = a &&& b := by
    show (BitVec.ofInt 64 (a : Int) &&& BitVec.ofInt 64 (b : Int)).toNat = a &&& b
    rw [BitVec.toNat_and, ofInt64 ha, ofInt64 hb]
  rw [e]
  have := Nat.and_le_left (n := a) (m := b)
  exact wrapI (by omega) (by omega)
theorem or64 {a b : Nat} (ha : a < 9223372036854775808) (hb : b < 9223372036854775808) :
    IntKind.wrap .i64 ((BitVec.ofInt (IntKind.bits .i64) (a : Int) ||| BitVec.ofInt (IntKind.bits .i64) (b : Int)).toNat : Int) = ((a ||| b : Nat) : Int) := by
  have e : (BitVec.ofInt (IntKind.bits .i64) (a : Int) ||| BitVec.ofInt (IntKind.bits .i64) (b : Int)).toNat = a ||| b := by
    show (BitVec.ofInt 64 (a : Int) ||| BitVec.ofInt 64 (b : Int)).toNat = a ||| b
    rw [BitVec.toNat_or, ofInt64 ha, ofInt64 hb]
  rw [e]
  have : a ||| b < 2 ^ 63 := Nat.or_lt_two_pow (by omega) (by omega)
  exact wrapI (by omega) (by omega)
theorem shr64 {a b : Nat} (hb : b ≤ 64) : Int.fdiv (a : Int) (2 ^ (min (b : Int).toNat (IntKind.bits .i64))) = ((a / 2 ^ b : Nat) : Int) := by
  have e : min (b : Int).toNat (IntKind.bits .i64) = b := by
    show min (b : Int).toNat 64 = b
    omega
  rw [e, Int.fdiv_eq_ediv_of_nonneg _ (by exact Int.le_of_lt (Int.pow_pos (by decide)))]
  norm_cast
theorem and1 (a : Nat) : a &&& 1 = a % 2 := Nat.and_one_is_mod a
theorem and64_1 {a : Nat} (ha : a < 9223372036854775808) : IntKind.wrap .i64 ((BitVec.ofInt (IntKind.bits .i64) (a : Int) &&& BitVec.ofInt (IntKind.bits .i64) 1).toNat : Int) = ((a % 2 : Nat) : Int) := by
  have := and64 (a := a) (b := 1) ha (by decide)
  rw [and1] at this
  exact this
theorem shr_le {a j : Nat} (ha : a ≤ 9223372036854775807) : a / 2 ^ j < 9223372036854775808 := by
  have := Nat.div_le_self a (2 ^ j)
  omega
/-- Is i among the members of the set s? -/
def inSt (s i : Int) : Bool := inR i 0 30 && decide (0 ≤ s) && decide (s.toNat / 2 ^ i.toNat % 2 = 1)
theorem inSt_of {a j : Nat} (h : j ≤ 30) : inSt a j = decide (a / 2 ^ j % 2 = 1) := by
  have : inR (j : Int) 0 30 = true := by rw [inR_t]; omega
  simp [inSt, this]
theorem is37 : FI 37 Tryz.f37 := ⟨⟨Tryz.f37, Tryz.func37, rfl, rfl, rfl, rfl⟩, rfl⟩
set_option maxRecDepth 20000 in
set_option maxHeartbeats 16000000 in
theorem i_inSet (s i : Int) (hs : s ≤ 9223372036854775807) : FO 37 [I s, I i] [I s, I i] (B (inSt s i)) := by
  refine fok envOk mixed is37 ⟨rfl, rfl, ?_⟩
  (repeat' ((conv => whnf); first | refine stp ?_ | refine Br.mk (fun _ => ?_) (fun _ => ?_) | refine Cl.mk (i_InRange _ _ _) ?_ | refine Cl.pre (by simp only [shcLL_ints, shcLL_byts, shcLL_strs, Mani.shcs, Name.shcs, Segm.shcs]; rfl) ?_))
  all_goals try (refine Vs.Fin.mk (WkR.eq ?_) (.refl _); first | (simp_all [inSt]; done) | (simp_all [inSt]; omega))
  have h1 : 0 ≤ i ∧ i ≤ 30 := by simp [inR_t] at *; omega
  have h2 : 0 ≤ s := by simp at *; omega
  obtain ⟨a, rfl⟩ : ∃ a : Nat, s = a := ⟨s.toNat, by omega⟩
  obtain ⟨j, rfl⟩ : ∃ j : Nat, i = j := ⟨i.toNat, by omega⟩
  (conv => whnf)
  refine Nm.mk (shr64 (by omega)) ?_
  (repeat' ((conv => whnf); first | refine stp ?_ ))
  refine Nm.mk (and64_1 (shr_le (by omega))) ?_
  (repeat' ((conv => whnf); first | refine stp ?_ ))
  refine Vs.Fin.mk (WkR.eq ?_) (.refl _)
  rw [inSt_of (by omega)]
  by_cases h : a / 2 ^ j % 2 = 1
  · simp [h]
  · have : a / 2 ^ j % 2 = 0 := by omega
    simp [this]
def okDig (x : Int) : Bool := inR x 0 2147483646
def vMani (p : Mani) : Bool := inR p.seg 1 60 && inR p.len 0 (p.seg * 8) && decide ((p.dig.length : Int) = cdiv p.len p.seg) && p.dig.all okDig
theorem is66 : FI 66 Tryz.f66 := ⟨⟨Tryz.f66, Tryz.func66, rfl, rfl, rfl, rfl⟩, rfl⟩
set_option maxRecDepth 20000 in
set_option maxHeartbeats 16000000 in
theorem i_ValidManifest_1 (x : Int) : FO 66 [I x] [I x] (B (!okDig x)) := by
  refine fok envOk mixed is66 ⟨rfl, rfl, ?_⟩
  (repeat' ((conv => whnf); first | refine stp ?_ | refine Br.mk (fun _ => ?_) (fun _ => ?_) | refine Cl.mk (i_InRange _ _ _) ?_ | refine Cl.pre (by simp only [shcLL_ints, shcLL_byts, shcLL_strs, Mani.shcs, Name.shcs, Segm.shcs]; rfl) ?_))
  all_goals (try (refine Vs.Fin.mk (WkR.eq ?_) (.refl _); first | rfl | (simp_all [okDig]; done) | (simp_all [okDig]; omega) | grind | grind [okDig]))
theorem is35 : FI 35 Tryz.f35 := ⟨⟨Tryz.f35, Tryz.func35, rfl, rfl, rfl, rfl⟩, rfl⟩
set_option maxRecDepth 20000 in
set_option maxHeartbeats 16000000 in
theorem i_ValidManifest (p : Mani) (hl : p.dig.length ≤ 1048576) : FO 35 [A (p.c false)] [A (p.c false)] (B (vMani p)) := by
  refine fok envOk mixed is35 ⟨rfl, rfl, ?_⟩
  (repeat' ((conv => whnf); first | refine stp ?_ | refine Br.mk (fun _ => ?_) (fun _ => ?_) | refine Cl.mk (i_InRange _ _ _) ?_ | refine Cl.mk (i_CeilDiv _ _) ?_ | refine Cl.mk (ContainsFunc_int (by omega) (fun x _ => i_ValidManifest_1 x)) ?_ | refine Cl.pre (by simp only [shcLL_ints, shcLL_byts, shcLL_strs, Mani.shcs, Name.shcs, Segm.shcs]; rfl) ?_))
  all_goals (try (refine Vs.Fin.mk (WkR.eq ?_) (.refl _); first | rfl | (simp_all [vMani, inR_t, List.all_eq_not_any_not]; done) | (simp_all [vMani, inR_t, List.all_eq_not_any_not]; omega) | grind | grind [vMani, inR_t, List.all_eq_not_any_not]))
/-! Digests -/
theorem tmodm {n m : Int} (h : 0 < m) : (n.tmod m + m) % m = n % m := by
  rw [Int.add_emod_right]
  rcases Int.le_total 0 n with h0 | h0
  · rw [Int.tmod_eq_emod_of_nonneg h0, Int.emod_emod_of_dvd _ (Int.dvd_refl m)]
  · have := Int.tmod_add_mul_tdiv n m
    have h2 : n.tmod m = n - m * n.tdiv m := by omega
    rw [h2, Int.sub_mul_emod_self_left]
def modm (n m : Int) : Int := if inR m 1 1000000000000 then n % m else 0
theorem tmod_b {n m : Int} (h : 0 < m) : -m < n.tmod m ∧ n.tmod m < m := by
  refine ⟨?_, Int.tmod_lt_of_pos n h⟩
  rcases Int.le_total 0 n with h0 | h0
  · have := Int.tmod_nonneg m h0
    omega
  · have h1 := Int.tmod_lt_of_pos (-n) h
    rw [Int.neg_tmod] at h1
    omega
theorem modm_b {n : Int} : 0 ≤ modm n 2147483647 ∧ modm n 2147483647 < 2147483647 := by
  have : modm n 2147483647 = n % 2147483647 := by simp [modm, inR]
  rw [this]; omega
theorem is123 : FI 123 Tryz.f123 := ⟨⟨Tryz.f123, Tryz.func123, rfl, rfl, rfl, rfl⟩, rfl⟩
set_option maxRecDepth 20000 in
set_option maxHeartbeats 16000000 in
theorem s_Mod (n k : Int) : FO 123 [I n, I k] [I n, I k] (I (modm n k)) := by
  refine fok envOk mixed is123 ⟨rfl, rfl, ?_⟩
  (repeat' ((conv => whnf); first | refine stp ?_ | refine Br.mk (fun _ => ?_) (fun _ => ?_) | refine Cl.mk (s_l1In _ _ _) ?_ | refine Cl.pre (by simp only [shcLL_ints, shcLL_byts, shcLL_strs, Mani.shcs, Name.shcs, Segm.shcs]; rfl) ?_))
  · all_goals (try (refine Vs.Fin.mk (WkR.eq ?_) (.refl _); first | rfl | (simp_all [modm]; done) | (simp_all [modm]; omega) | grind | grind [modm]))
  have hk : 1 ≤ k ∧ k ≤ 1000000000000 := by simp [inR_t] at *; omega
  have hb := tmod_b (n := n) (m := k) (by omega)
  refine Nm.mk rfl ?_
  (repeat' ((conv => whnf); first | refine stp ?_ | refine Br.mk (fun _ => ?_) (fun _ => ?_) ))
  refine Vs.Fin.mk (WkR.eq ?_) (.refl _)
  rw [tmodm (by omega)]
  simp [modm, inR_t, hk]
theorem is80 : FI 80 Tryz.f80 := ⟨⟨Tryz.f80, Tryz.func80, rfl, rfl, rfl, rfl⟩, rfl⟩
set_option maxRecDepth 20000 in
set_option maxHeartbeats 16000000 in
theorem i_Mod (n k : Int) : FO 80 [I n, I k] [I n, I k] (I (modm n k)) := by
  refine fok envOk mixed is80 ⟨rfl, rfl, ?_⟩
  (repeat' ((conv => whnf); first | refine stp ?_ | refine Br.mk (fun _ => ?_) (fun _ => ?_) | refine Cl.mk (i_InRange _ _ _) ?_ | refine Cl.pre (by simp only [shcLL_ints, shcLL_byts, shcLL_strs, Mani.shcs, Name.shcs, Segm.shcs]; rfl) ?_))
  · all_goals (try (refine Vs.Fin.mk (WkR.eq ?_) (.refl _); first | rfl | (simp_all [modm]; done) | (simp_all [modm]; omega) | grind | grind [modm]))
  have hk : 1 ≤ k ∧ k ≤ 1000000000000 := by simp [inR_t] at *; omega
  have hb := tmod_b (n := n) (m := k) (by omega)
  refine Nm.mk rfl ?_
  (repeat' ((conv => whnf); first | refine stp ?_ | refine Br.mk (fun _ => ?_) (fun _ => ?_) ))
  refine Vs.Fin.mk (WkR.eq ?_) (.refl _)
  rw [tmodm (by omega)]
  simp [modm, inR_t, hk]
def dgStep (d x : Int) : Int := (d * 1000003 + modm x 2147483647 + 13) % 2147483647
def digest (l : List Int) : Int := l.foldl dgStep 11
theorem digest_b (l : List Int) : 0 ≤ digest l ∧ digest l < 2147483647 := by
  have key : ∀ (l : List Int) (d : Int), 0 ≤ d ∧ d < 2147483647 → 0 ≤ l.foldl dgStep d ∧ l.foldl dgStep d < 2147483647 := by
    intro l
    induction l with
    | nil => intro d h; exact h
    | cons x l ih => intro d h; exact ih _ (by unfold dgStep; omega)
  exact key l 11 (by omega)
theorem digest_snoc (l : List Int) (x : Int) : digest (l ++ [x]) = dgStep (digest l) x := by simp [digest]
theorem is106 : FI 106 Tryz.f106 := ⟨⟨Tryz.f106, Tryz.func106, rfl, rfl, rfl, rfl⟩, rfl⟩
set_option maxRecDepth 20000 in
set_option maxHeartbeats 16000000 in
theorem s_Digest (l : List Int) (hl : l.length ≤ 1048576000) : FO 106 [Is false l] [Is false l] (I (digest l)) := by
  refine fok envOk mixed is106 ⟨rfl, rfl, ?_⟩
  refine Lp.mk [.sl 0, .sl 3, .sl 4] (fun m σ => ∃ d r, l = d ++ r ∧ m = r.length ∧ σ = [Sa 0 (Is false l), Sa 3 (I (digest d)), Sa 4 (I d.length)]) (l.length) _ (WkS.weak _ _) ⟨[], l, rfl, rfl, (by first | rfl | (simp only [zlen, zsum, Nat.zero_mul, Int.add_zero, Int.sub_zero, List.nil_append, markG]; rfl))⟩ ?_
  rintro m τ ⟨d, r, rfl, rfl, rfl⟩
  refine Nm.mk lenC ?_
  cases r with
  | nil =>
    refine Br.neg (by simp) ?_
    (repeat' ((conv => whnf); first | refine stp ?_ | refine Br.mk (fun _ => ?_) (fun _ => ?_) ))
    all_goals (try (refine Vs.Fin.mk (WkR.eq ?_) (.refl _); first | rfl | (simp_all [List.append_nil]; done) | (simp_all [List.append_nil]; omega) | grind | grind [List.append_nil]))
  | cons x r =>
    simp at hl
    have hd := digest_b d
    have hm := modm_b (n := x)
    refine Br.pos (by simp; omega) ?_
    refine Nm.mk (wrapI (by omega) (by omega)) ?_
    refine Rq.mk ⟨by omega, by simp; omega⟩ ?_
    refine El.mk (getA rfl) ?_
    (repeat' ((conv => whnf); first | refine stp ?_ | refine Br.mk (fun _ => ?_) (fun _ => ?_) | refine Cl.mk (s_Mod _ _) ?_ | refine Cl.pre (by simp only [shcLL_ints, shcLL_byts, shcLL_strs, Mani.shcs, Name.shcs, Segm.shcs]; rfl) ?_))
    refine Nx.intro r.length (by simp) _ (WkS.weak _ _) ⟨d ++ [x], r, by simp, rfl, ?_⟩
    rw [len1, digest_snoc]; rfl
theorem is51 : FI 51 Tryz.f51 := ⟨⟨Tryz.f51, Tryz.func51, rfl, rfl, rfl, rfl⟩, rfl⟩
set_option maxRecDepth 20000 in
set_option maxHeartbeats 16000000 in
theorem i_Digest (l : List Int) (hl : l.length ≤ 1048576000) : FO 51 [Is false l] [Is false l] (I (digest l)) := by
  refine fok envOk mixed is51 ⟨rfl, rfl, ?_⟩
  refine Nm.mk lenC ?_
  refine Lp.mk [.sl 3, .sl 6, .sl 7, .sl 8] (fun m σ => ∃ d r, l = d ++ r ∧ m = r.length ∧ σ = [Sa 3 (I (digest d)), Sa 6 (Is false l), Sa 7 (I l.length), Sa 8 (I d.length)]) (l.length) _ (WkS.weak _ _) ⟨[], l, rfl, rfl, (by first | rfl | (simp only [zlen, zsum, Nat.zero_mul, Int.add_zero, Int.sub_zero, List.nil_append, markG]; rfl))⟩ ?_
  rintro m τ ⟨d, r, rfl, rfl, rfl⟩
  cases r with
  | nil =>
    refine Br.neg (by simp) ?_
    (repeat' ((conv => whnf); first | refine stp ?_ | refine Br.mk (fun _ => ?_) (fun _ => ?_) ))
    all_goals (try (refine Vs.Fin.mk (WkR.eq ?_) (.refl _); first | rfl | (simp_all [List.append_nil]; done) | (simp_all [List.append_nil]; omega) | grind | grind [List.append_nil]))
  | cons x r =>
    simp at hl
    have hd := digest_b d
    have hm := modm_b (n := x)
    refine Br.pos (by simp; omega) ?_
    refine Rq.mk ⟨by omega, by simp; omega⟩ ?_
    refine El.mk (getA rfl) ?_
    refine Nm.mk (wrapI (by omega) (by omega)) ?_
    (repeat' ((conv => whnf); first | refine stp ?_ | refine Br.mk (fun _ => ?_) (fun _ => ?_) | refine Cl.mk (i_Mod _ _) ?_ | refine Cl.pre (by simp only [shcLL_ints, shcLL_byts, shcLL_strs, Mani.shcs, Name.shcs, Segm.shcs]; rfl) ?_))
    refine Nx.intro r.length (by simp) _ (WkS.weak _ _) ⟨d ++ [x], r, by simp, rfl, ?_⟩
    rw [len1, digest_snoc]; rfl
def b2i (b : List UInt8) : List Int := (b.length : Int) :: b.map fun x => (x.toNat : Int)
theorem is124 : FI 124 Tryz.f124 := ⟨⟨Tryz.f124, Tryz.func124, rfl, rfl, rfl, rfl⟩, rfl⟩
set_option maxRecDepth 20000 in
set_option maxHeartbeats 16000000 in
theorem s_BytesToInts (b : List UInt8) (hl : b.length ≤ 1048576) : FO 124 [Ys false b] [Ys false b] (Is true (b2i b)) := by
  refine fok envOk mixed is124 ⟨rfl, rfl, ?_⟩
  refine Nm.mk lenC ?_
  refine Lp.mk [.sl 0, .sl 3, .sl 4] (fun m σ => ∃ d r, b = d ++ r ∧ m = r.length ∧ σ = [Sa 0 (Ys false b), Sa 3 (O (.sl true .non 1 (ints ((b.length : Int) :: d.map fun x => (x.toNat : Int))))), Sa 4 (I d.length)]) (b.length) _ (WkS.weak _ _) ⟨[], b, rfl, rfl, (by first | rfl | (simp only [zlen, zsum, Nat.zero_mul, Int.add_zero, Int.sub_zero, List.nil_append, markG]; rfl))⟩ ?_
  rintro m τ ⟨d, r, rfl, rfl, rfl⟩
  refine Nm.mk lenC ?_
  cases r with
  | nil =>
    refine Br.neg (by simp) ?_
    refine ⟨rfl, WkR.of (.sl1 ?_ .nil), .refl _⟩
    simp [b2i]
  | cons x r =>
    simp at hl
    have hx := x.toNat_lt
    refine Br.pos (by simp; omega) ?_
    refine Rq.mk ⟨by omega, by simp; omega⟩ ?_
    refine El.mk (getA rfl) ?_
    refine Nm.mk (wrapI (by omega) (by omega)) ?_
    refine Rq.mk (by simp; omega) ?_
    refine Nm.mk (wrapI (by omega) (by omega)) ?_
    refine Nx.intro r.length (by simp) _ (WkS.weak _ _) ⟨d ++ [x], r, by simp, rfl, ?_⟩
    (repeat' (first | exact rfl | refine consE ?_ ?_ | refine entE ?_ | refine vI ?_ | refine vS ?_ | refine vT ?_ | refine vB ?_))
    · simp
    · simp
theorem is52 : FI 52 Tryz.f52 := ⟨⟨Tryz.f52, Tryz.func52, rfl, rfl, rfl, rfl⟩, rfl⟩
set_option maxRecDepth 20000 in
set_option maxHeartbeats 16000000 in
theorem i_BytesToInts (b : List UInt8) (hl : b.length ≤ 1048576) : FO 52 [Ys false b] [Ys false b] (Is true (b2i b)) := by
  refine fok envOk mixed is52 ⟨rfl, rfl, ?_⟩
  refine Nm.mk lenC ?_
  refine Nm.mk lenC ?_
  refine Lp.mk [.sl 3, .sl 9, .sl 10, .sl 11] (fun m σ => ∃ d r, b = d ++ r ∧ m = r.length ∧ σ = [Sa 3 (O (.sl true .non 1 (ints ((b.length : Int) :: d.map fun x => (x.toNat : Int))))), Sa 9 (Ys false b), Sa 10 (I b.length), Sa 11 (I d.length)]) (b.length) _ (WkS.weak _ _) ⟨[], b, rfl, rfl, (by first | rfl | (simp only [zlen, zsum, Nat.zero_mul, Int.add_zero, Int.sub_zero, List.nil_append, markG]; rfl))⟩ ?_
  rintro m τ ⟨d, r, rfl, rfl, rfl⟩
  cases r with
  | nil =>
    refine Br.neg (by simp) ?_
    refine ⟨rfl, WkR.of (.sl1 ?_ .nil), .refl _⟩
    simp [b2i]
  | cons x r =>
    simp at hl
    have hx := x.toNat_lt
    refine Br.pos (by simp; omega) ?_
    refine Rq.mk ⟨by omega, by simp; omega⟩ ?_
    refine El.mk (getA rfl) ?_
    refine Nm.mk (wrapI (by omega) (by omega)) ?_
    refine Rq.mk (by simp; omega) ?_
    refine Nm.mk (wrapI (by omega) (by omega)) ?_
    refine Nx.intro r.length (by simp) _ (WkS.weak _ _) ⟨d ++ [x], r, by simp, rfl, ?_⟩
    (repeat' (first | exact rfl | refine consE ?_ ?_ | refine entE ?_ | refine vI ?_ | refine vS ?_ | refine vT ?_ | refine vB ?_))
    · simp
    · simp
def cut (b : List UInt8) (s i : Nat) : List UInt8 := (b.drop (i * s)).take s
theorem cut_q (b : List UInt8) (s q : Nat) (h : q ≤ b.length) : ((byts b).take (mi b.length ((q : Int) + s)).toNat).drop (q : Int).toNat = byts ((b.drop q).take s) := by
  rw [Int.toNat_natCast, List.drop_take, ← List.map_drop, ← List.map_take]
  congr 1
  unfold mi
  split
  · rename_i h2
    congr 1
    omega
  · rename_i h2
    have h3 : b.length ≤ q + s := by omega
    rw [List.take_of_length_le (by simp), List.take_of_length_le (by simp; omega)]
/-- The digests of the first n segments. -/
def digs (b : List UInt8) (s n : Nat) : List Int := (List.range n).map fun i => digest (b2i (cut b s i))
@[simp] theorem digs_len (b : List UInt8) (s n : Nat) : (digs b s n).length = n := by simp [digs]
theorem digs_snoc (b : List UInt8) (s n : Nat) : digs b s (n + 1) = digs b s n ++ [digest (b2i (cut b s n))] := by simp [digs, List.range_succ]
theorem cdiv_iff {a s : Nat} (hs : 1 ≤ s) (h1 : s ≤ 60) (ha : a ≤ 1048576) (i : Nat) : ((i : Int) < cdiv a s) ↔ i * s < a := by
  have e : cdiv a s = ((a + s - 1) / s : Nat) := by
    have : inR (a : Int) 0 1000000000000 = true := by rw [inR_t]; omega
    have h2 : inR (s : Int) 1 1000000000000 = true := by rw [inR_t]; omega
    simp only [cdiv, this, h2, Bool.and_self, if_true]
    have : (a : Int) + s - 1 = ((a + s - 1 : Nat) : Int) := by omega
    rw [this, ← Int.natCast_ediv]
  rw [e]
  have : i < (a + s - 1) / s ↔ i * s < a := by
    rw [Nat.lt_div_iff_mul_lt (by omega)]
    omega
  omega
theorem cdiv_nn (a s : Int) : 0 ≤ cdiv a s := by
  unfold cdiv
  split
  · rename_i h
    simp [inR_t] at h
    exact Int.ediv_nonneg (by omega) (by omega)
  · omega
def mkMani (b : List UInt8) (size : Int) : Mani := if inR size 1 60 && decide ((b.length : Int) ≤ size * 8) then ⟨size, b.length, digs b size.toNat (cdiv b.length size).toNat⟩ else ⟨0, 0, []⟩
theorem mkMani_no {b : List UInt8} {size : Int} (h : inR size 1 60 = true → ¬ (b.length : Int) ≤ size * 8) : mkMani b size = ⟨0, 0, []⟩ := by
  unfold mkMani
  rw [if_neg]
  simp only [Bool.and_eq_true, decide_eq_true_eq]
  exact fun h2 => h h2.1 h2.2
theorem is25 : FI 25 Tryz.f25 := ⟨⟨Tryz.f25, Tryz.func25, rfl, rfl, rfl, rfl⟩, rfl⟩
set_option maxRecDepth 20000 in
set_option maxHeartbeats 16000000 in
theorem i_MakeManifest (b : List UInt8) (size : Int) (hb : b.length ≤ 1048576) : FO 25 [Ys false b, I size] [Ys false b, I size] (A (Mani.c true (mkMani b size))) := by
  refine fok envOk mixed is25 ⟨rfl, rfl, ?_⟩
  (repeat' ((conv => whnf); first | refine stp ?_ | refine Br.mk (fun _ => ?_) (fun _ => ?_) | refine Cl.mk (i_InRange _ _ _) ?_ | refine Cl.pre (by simp only [shcLL_ints, shcLL_byts, shcLL_strs, Mani.shcs, Name.shcs, Segm.shcs]; rfl) ?_))
  all_goals try (refine Vs.Fin.mk ?_ (.refl _); rw [mkMani_no (by intro _; simp_all <;> omega)]; exact WkR.of (.keep (.keep (.nils .nil))))
  have hs : 1 ≤ size ∧ size ≤ 60 := by simp [inR_t] at *; omega
  have hle : (b.length : Int) ≤ size * 8 := by simp at *; omega
  obtain ⟨s, rfl⟩ : ∃ s : Nat, size = s := ⟨size.toNat, by omega⟩
  obtain ⟨n, hn⟩ : ∃ n : Nat, cdiv b.length s = n := ⟨(cdiv b.length s).toNat, by have := cdiv_nn b.length s; omega⟩
  have hiff := fun i => cdiv_iff (a := b.length) (s := s) (by omega) (by omega) hb i
  rw [hn] at hiff
  refine Lp.mk [.sl 0, .sl 1, .bx 4, .sl 4, .bx 5, .sl 5, .sl 6] (fun m σ => ∃ i, i + m = n ∧ σ = [Sa 0 (Ys false b), Sa 1 (I s), Bx 4 ([cI 0, cI 0, .sl true .isnil 0 []]), Pt 4, Bx 5 ([cI s, cI b.length, cIs true (digs b s i)]), Pt 5, Sa 6 (I ((i * s : Nat) : Int))]) (n) _ (.cons (.refl _) (.cons (.refl _) (.cons (.refl _) (.cons (.refl _) (.cons (.keep (.keep (.nils .nil))) (.cons (.refl _) (.cons (.refl _) .nil))))))) ⟨0, by simp, (by first | rfl | (simp only [zlen, zsum, Nat.zero_mul, Int.add_zero, Int.sub_zero, List.nil_append, markG]; rfl))⟩ ?_
  rintro m τ ⟨i, hi, rfl⟩
  refine Nm.mk lenC ?_
  refine Br.dec (fun h => ?_) (fun h => ?_)
  · have hlt : i * s < b.length := by omega
    have hin := (hiff i).2 hlt
    have hi3 : i ≤ i * s := Nat.le_mul_of_pos_right i (by omega)
    have hq := cut_q b s (i * s) (by omega)
    have h2 : mi b.length (((i * s : Nat) : Int) + s) ≤ b.length ∧ ((i * s : Nat) : Int) ≤ mi b.length (((i * s : Nat) : Int) + s) := by unfold mi; split <;> omega
    refine Nm.mk lenC ?_
    refine Nm.mk (wrapI (by omega) (by omega)) ?_
    refine Nm.mk (mi_eq _ _) ?_
    refine Rq.mk ⟨by omega, h2.2, by simpa using h2.1⟩ ?_
    refine Cl.eq (i_BytesToInts (cut b s i) (by simp [cut]; omega)) (by show [O (.sl false .unk 1 _)] = _; rw [hq]; rfl) ?_
    (repeat' ((conv => whnf); first | refine stp ?_ | refine Br.mk (fun _ => ?_) (fun _ => ?_) | refine Cl.mk (i_Digest (b2i (cut b s i)) (by simp [b2i, cut]; omega)) ?_ | refine Cl.pre (by simp only [shcLL_ints, shcLL_byts, shcLL_strs, Mani.shcs, Name.shcs, Segm.shcs]; rfl) ?_))
    have e1 : ((i * s : Nat) : Int) + s = (((i + 1) * s : Nat) : Int) := by rw [Nat.add_mul]; omega
    refine Nx.intro (m - 1) (by omega) _ (WkS.weak _ _) ⟨i + 1, by omega, ?_⟩
    (repeat' (first | exact rfl | refine consE ?_ ?_ | refine entE ?_ | refine vI ?_ | refine vS ?_ | refine vT ?_ | refine vB ?_))
    · rw [digs_snoc]; simp
    · exact e1
  · obtain rfl : i = n := by
      by_cases hlt : i < n
      · exact absurd ((hiff i).1 (by omega)) (by omega)
      · omega
    (repeat' ((conv => whnf); first | refine stp ?_ | refine Br.mk (fun _ => ?_) (fun _ => ?_) ))
    refine Vs.Fin.mk (WkR.eq ?_) (.refl _)
    have : mkMani b s = ⟨s, b.length, digs b s i⟩ := by
      unfold mkMani
      rw [if_pos (by simp [inR_t]; omega), hn]
      simp
    rw [this]
def vSeg (p : Mani) (i : Int) (b : List UInt8) : Bool := vMani p && inR i 0 (p.dig.length - 1) && decide ((b.length : Int) = mi p.seg (p.len - i * p.seg)) && decide (p.dig.getD i.toNat 0 = digest (b2i b))
theorem vMani_b {p : Mani} (h : vMani p = true) : 1 ≤ p.seg ∧ p.seg ≤ 60 ∧ 0 ≤ p.len ∧ p.len ≤ p.seg * 8 ∧ (p.dig.length : Int) = cdiv p.len p.seg := by
  simp [vMani, inR_t] at h
  omega
theorem seg_b {i s : Int} {n : Nat} (hn : n ≤ 1048576) (h : inR i 0 (n - 1) = true) (hs : 1 ≤ s ∧ s ≤ 60) : 0 ≤ i * s ∧ i * s ≤ 62914560 := by
  simp [inR_t] at h
  refine ⟨Int.mul_nonneg (by omega) (by omega), ?_⟩
  have : i * s ≤ 1048576 * 60 := Int.mul_le_mul (by omega) (by omega) (by omega) (by omega)
  omega
theorem is40 : FI 40 Tryz.f40 := ⟨⟨Tryz.f40, Tryz.func40, rfl, rfl, rfl, rfl⟩, rfl⟩
set_option maxRecDepth 20000 in
set_option maxHeartbeats 16000000 in
theorem i_VerifySegment (p : Mani) (i : Int) (b : List UInt8) (hl : p.dig.length ≤ 1048576) (hb : b.length ≤ 1048576) : FO 40 [A (p.c false), I i, Ys false b] [A (p.c false), I i, Ys false b] (B (vSeg p i b)) := by
  refine fok envOk mixed is40 ⟨rfl, rfl, ?_⟩
  (repeat' ((conv => whnf); first | refine stp ?_ | refine Br.mk (fun _ => ?_) (fun _ => ?_) | refine Cl.mk (i_ValidManifest p hl) ?_ | refine Cl.mk (i_InRange _ _ _) ?_ | refine Cl.pre (by simp only [shcLL_ints, shcLL_byts, shcLL_strs, Mani.shcs, Name.shcs, Segm.shcs]; rfl) ?_))
  all_goals try (refine Vs.Fin.mk (WkR.eq ?_) (.refl _); simp_all [vSeg]; done)
  have hv : vMani p = true := by simp_all
  have hi : inR i 0 (p.dig.length - 1) = true := by simp_all
  have hm := vMani_b hv
  have hsb := seg_b hl hi ⟨hm.1, hm.2.1⟩
  have hi' := hi
  simp [inR_t] at hi'
  (repeat' ((conv => whnf); first | refine stp ?_ | refine Br.mk (fun _ => ?_) (fun _ => ?_) | refine Cl.mk (i_BytesToInts b hb) ?_ | refine Cl.mk (i_Digest (b2i b) (by simp [b2i]; omega)) ?_ | refine Cl.pre (by simp only [shcLL_ints, shcLL_byts, shcLL_strs, Mani.shcs, Name.shcs, Segm.shcs]; rfl) ?_))
  · refine El.mk (m := [cI (p.dig.getD i.toNat 0)]) (by simp; rw [List.getElem?_eq_getElem (by omega)]; simp) ?_
    (repeat' ((conv => whnf); first | refine stp ?_ ))
    refine Vs.Fin.mk (WkR.eq ?_) (.refl _)
    by_cases he : digest (b2i b) = p.dig[i.toNat]?.getD 0
    · simp_all [vSeg]
    · have he2 := Ne.symm he
      simp_all [vSeg]
  · refine Vs.Fin.mk (WkR.eq ?_) (.refl _)
    simp_all [vSeg]
def segAt (b : List UInt8) (p : Mani) (i : Int) : List UInt8 := if vMani p && decide ((b.length : Int) = p.len) && inR i 0 (p.dig.length - 1) then cut b p.seg.toNat i.toNat else []
theorem segAt_no {b : List UInt8} {p : Mani} {i : Int} (h : ¬ (vMani p = true ∧ (b.length : Int) = p.len ∧ inR i 0 (p.dig.length - 1) = true)) : segAt b p i = [] := by
  unfold segAt
  rw [if_neg]
  simp only [Bool.and_eq_true, decide_eq_true_eq]
  exact fun h2 => h ⟨h2.1.1, h2.1.2, h2.2⟩
theorem segAt_yes {b : List UInt8} {p : Mani} {i : Int} (h : vMani p = true) (h1 : (b.length : Int) = p.len) (h2 : inR i 0 (p.dig.length - 1) = true) : segAt b p i = cut b p.seg.toNat i.toNat := by
  simp [segAt, h, h1, h2]
theorem seg_in {b : List UInt8} {p : Mani} {s j : Nat} (hb : b.length ≤ 1048576) (h : vMani p = true) (h1 : (b.length : Int) = p.len) (h2 : inR j 0 (p.dig.length - 1) = true) (hs : p.seg = s) : j * s < b.length := by
  have hm := vMani_b h
  rw [hs, ← h1] at hm
  simp [inR_t] at h2
  exact (cdiv_iff (a := b.length) (s := s) (by omega) (by omega) hb j).1 (by omega)
theorem is30 : FI 30 Tryz.f30 := ⟨⟨Tryz.f30, Tryz.func30, rfl, rfl, rfl, rfl⟩, rfl⟩
set_option maxRecDepth 20000 in
set_option maxHeartbeats 16000000 in
theorem i_SegmentAt (b : List UInt8) (p : Mani) (i : Int) (hl : p.dig.length ≤ 1048576) (hb : b.length ≤ 1048576) : FO 30 [Ys false b, A (p.c false), I i] [Ys false b, A (p.c false), I i] (Ys true (segAt b p i)) := by
  refine fok envOk mixed is30 ⟨rfl, rfl, ?_⟩
  (repeat' ((conv => whnf); first | refine stp ?_ | refine Br.mk (fun _ => ?_) (fun _ => ?_) | refine Cl.mk (i_ValidManifest p hl) ?_ | refine Cl.mk (i_InRange _ _ _) ?_ | refine Cl.pre (by simp only [shcLL_ints, shcLL_byts, shcLL_strs, Mani.shcs, Name.shcs, Segm.shcs]; rfl) ?_))
  all_goals try (refine Vs.Fin.mk ?_ (.refl _); rw [segAt_no (by simp_all)]; exact WkR.of (.nils .nil))
  have hv : vMani p = true := by simp_all
  have hi : inR i 0 (p.dig.length - 1) = true := by simp_all
  have hbl : (b.length : Int) = p.len := by simp_all
  have hm := vMani_b hv
  have hi' := hi
  simp [inR_t] at hi'
  obtain ⟨s, hs⟩ : ∃ s : Nat, p.seg = s := ⟨p.seg.toNat, by omega⟩
  obtain ⟨j, rfl⟩ : ∃ j : Nat, i = j := ⟨i.toNat, by omega⟩
  have hlt := seg_in hb hv hbl hi hs
  have e : (j : Int) * p.seg = ((j * s : Nat) : Int) := by rw [hs, ← Int.natCast_mul]
  have e2 : ((j : Int) + 1) * p.seg = ((j * s : Nat) : Int) + s := by rw [Int.add_mul, e, hs]; omega
  generalize hq : j * s = q at *
  have hc := cut_q b s q (by omega)
  have h2 : mi b.length ((q : Int) + s) ≤ b.length ∧ (q : Int) ≤ mi b.length ((q : Int) + s) := by unfold mi; split <;> omega
  refine Nm.mk (m := (q : Int)) (by rw [e]; exact wrapI (by omega) (by omega)) ?_
  refine Nm.mk lenC ?_
  refine Nm.mk (wrapI (by omega) (by omega)) ?_
  refine Nm.mk (m := (q : Int) + s) (by rw [e2]; exact wrapI (by omega) (by omega)) ?_
  refine Nm.mk (mi_eq _ _) ?_
  refine Rq.mk ⟨by omega, h2.2, by simpa using h2.1⟩ ?_
  refine Cl.eq (Clone_byte (cut b s j) (by simp [cut]; omega)) (by show [O (.sl false .unk 1 _)] = _; rw [hc]; first | rfl | rw [cut, hq]) ?_
  (repeat' ((conv => whnf); first | refine stp ?_ | refine Br.mk (fun _ => ?_) (fun _ => ?_) ))
  refine Vs.Fin.mk (WkR.eq ?_) (.refl _)
  rw [segAt_yes hv hbl hi, hs]; simp
theorem mkMani_size {b : List UInt8} {z : Int} (hb : b.length ≤ 1048576) : Mani.size (mkMani b z) ≤ 1048576 := by
  unfold mkMani
  split
  · rename_i h
    simp [inR_t] at h
    simp only [Mani.size, digs_len]
    have : cdiv b.length z ≤ b.length := by
      unfold cdiv
      split
      · rename_i h2
        have : ((b.length : Int) + z - 1) / z ≤ b.length := by
          rcases (by omega : (b.length : Int) = 0 ∨ (1 : Int) ≤ b.length) with h4 | h4
          · rw [h4, Int.ediv_eq_zero_of_lt (by omega) (by omega)]
            omega
          refine Int.ediv_le_of_le_mul (by omega) ?_
          have h3 : (b.length : Int) * 1 ≤ b.length * z := Int.mul_le_mul_of_nonneg_left (by omega) (by omega)
          have h5 : (1 : Int) * (z - 1) ≤ b.length * (z - 1) := Int.mul_le_mul_of_nonneg_right h4 (by omega)
          have h6 : (b.length : Int) * (z - 1) = b.length * z - b.length := by rw [Int.mul_sub, Int.mul_one]
          omega
        omega
      · omega
    omega
  · simp [Mani.size]
theorem segAt_size {b : List UInt8} {p : Mani} {i : Int} (hb : b.length ≤ 1048576) : (segAt b p i).length ≤ 1048576 := by
  unfold segAt
  split
  · simp [cut]; omega
  · simp
end Go.Proofs.YtoekfmkbkffciaaGreatDoor
