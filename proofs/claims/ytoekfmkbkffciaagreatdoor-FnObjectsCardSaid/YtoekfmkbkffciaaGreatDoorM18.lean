/- Contracts of functions of the program: no statement of the seat is proved here. Each under the conditions that stand in it. -/
import Derived.Test.YtoekfmkbkffciaaGreatDoorFn
import Derived.Shelf.Strconv.Itoa3
import Derived.Ground.NamesProg
set_option linter.all false
namespace Go.Proofs.YtoekfmkbkffciaaGreatDoor
open Go.Vs Go.Proofs
/-! Integers, as text -/
def dgB (d : Nat) : ByteArray := ⟨#[UInt8.ofNat (48 + d)]⟩
def fmtF : Nat → Nat → ByteArray → ByteArray
  | 0, _, acc => acc
  | k + 1, x, acc => if x = 0 then acc else fmtF k (x / 10) (dgB (x % 10) ++ acc)
def minusB : ByteArray := ⟨#[45]⟩
def zeroB : ByteArray := ⟨#[48]⟩
def fmtI (n : Int) : ByteArray := if n = 0 then zeroB else if n < 0 then minusB ++ fmtF 20 n.natAbs ByteArray.empty else fmtF 20 n.natAbs ByteArray.empty
theorem fmtF_size : ∀ (k x : Nat) (acc : ByteArray), (fmtF k x acc).size ≤ k + acc.size
  | 0, x, acc => by simp [fmtF]
  | k + 1, x, acc => by
    unfold fmtF
    split
    · omega
    · have := fmtF_size k (x / 10) (dgB (x % 10) ++ acc)
      have h2 : (dgB (x % 10) ++ acc).size = 1 + acc.size := by rw [ByteArray.size_append]; rfl
      omega
theorem fmtI_size (n : Int) : (fmtI n).size ≤ 21 := by
  have h := fmtF_size 20 n.natAbs ByteArray.empty
  have e : ByteArray.empty.size = 0 := rfl
  unfold fmtI
  split
  · decide
  · split
    · rw [ByteArray.size_append]
      have : minusB.size = 1 := rfl
      omega
    · omega
theorem wrap8n {d : Nat} (h : d < 10) : IntKind.wrap .u8 (48 + (d : Int)) = ((UInt8.ofNat (48 + d)).toNat : Int) := by
  have h1 : IntKind.wrap .u8 (48 + (d : Int)) = (48 + (d : Int)) % 256 := by unfold IntKind.wrap; simp [IntKind.signed, IntKind.bits]
  rw [h1, UInt8.toNat_ofNat']
  omega
theorem dg_eq (d : Nat) : (⟨(bytesOf (shcLL [[AV.v (Value.int .u8 ((UInt8.ofNat (48 + d)).toNat : Int))]])).toArray⟩ : ByteArray) = dgB d := by
  have h : UInt8.ofNat (((UInt8.ofNat (48 + d)).toNat : Int)).toNat = UInt8.ofNat (48 + d) := by rw [Int.toNat_natCast, UInt8.ofNat_toNat]
  show (⟨([UInt8.ofNat (((UInt8.ofNat (48 + d)).toNat : Int)).toNat]).toArray⟩ : ByteArray) = dgB d
  rw [h]; rfl
theorem el1 (n : Int) : ∀ el ∈ shcLL [[AV.v (Value.int .u8 n)]], ∃ k, el = [AV.v (Value.int .u8 k)] := by
  intro el h
  simp only [shcLL, shcL, Vs.shc, List.mem_singleton] at h
  exact ⟨n, h⟩
theorem str_room {a b : ByteArray} (ha : a.size ≤ 100) (hb : b.size ≤ 100) : ((a.size + b.size : Nat) : Int) ≤ IntKind.i64.max := by
  have : IntKind.i64.max = 9223372036854775807 := rfl
  omega
def Tryz.laysItoa_ren : Go.Shelf.Ren := ⟨fun | 171 => 87 | 243 => 116 | 246 => 129 | 283 => 134 | 284 => 135 | 285 => 136 | 286 => 137 | 129 => 146 | 317 => 145 | 318 => 147 | 319 => 148 | 320 => 149 | 337 => 151 | 338 => 152 | n => n, fun | 3 => 3 | 9 => 9 | 2 => 2 | 4 => 4 | 171 => 160 | 0 => 0 | 53 => 161 | 37 => 22 | 5 => 5 | 173 => 164 | 212 => 175 | 51 => 176 | 20 => 20 | 213 => 177 | 46 => 83 | 232 => 181 | 233 => 182 | n => n, fun | 17 => 0 | 18 => 1 | 19 => 2 | n => n⟩
theorem Tryz.laysItoa : Go.Proofs.LaysM.n171 Tryz.prog Tryz.laysItoa_ren where
  mixed := by kernel_rfl
  f129 := Tryz.func146.trans (congrArg some (by kernel_rfl))
  f171 := Tryz.func87.trans (congrArg some (by kernel_rfl))
  f243 := Tryz.func116.trans (congrArg some (by kernel_rfl))
  f246 := Tryz.func129.trans (congrArg some (by kernel_rfl))
  f283 := Tryz.func134.trans (congrArg some (by kernel_rfl))
  f284 := Tryz.func135.trans (congrArg some (by kernel_rfl))
  f285 := Tryz.func136.trans (congrArg some (by kernel_rfl))
  f286 := Tryz.func137.trans (congrArg some (by kernel_rfl))
  f317 := Tryz.func145.trans (congrArg some (by kernel_rfl))
  f318 := Tryz.func147.trans (congrArg some (by kernel_rfl))
  f319 := Tryz.func148.trans (congrArg some (by kernel_rfl))
  f320 := Tryz.func149.trans (congrArg some (by kernel_rfl))
  f337 := Tryz.func151.trans (congrArg some (by kernel_rfl))
  f338 := Tryz.func152.trans (congrArg some (by kernel_rfl))
  t0 := Tryz.underlying0
  a0 := Tryz.isAgg0
  z0 := Tryz.sizeOf0
  v0 := Tryz.zeroValue0
  t2 := Tryz.underlying2
  a2 := Tryz.isAgg2
  z2 := Tryz.sizeOf2
  v2 := Tryz.zeroValue2
  t3 := Tryz.underlying3
  a3 := Tryz.isAgg3
  z3 := Tryz.sizeOf3
  v3 := Tryz.zeroValue3
  t4 := Tryz.underlying4
  a4 := Tryz.isAgg4
  z4 := Tryz.sizeOf4
  v4 := Tryz.zeroValue4
  t5 := Tryz.underlying5
  a5 := Tryz.isAgg5
  z5 := Tryz.sizeOf5
  v5 := Tryz.zeroValue5
  t9 := Tryz.underlying9
  a9 := Tryz.isAgg9
  z9 := Tryz.sizeOf9
  v9 := Tryz.zeroValue9
  t20 := Tryz.underlying20
  a20 := Tryz.isAgg20
  z20 := Tryz.sizeOf20
  v20 := Tryz.zeroValue20
  t37 := Tryz.underlying22
  a37 := Tryz.isAgg22
  z37 := Tryz.sizeOf22
  v37 := Tryz.zeroValue22
  t46 := Tryz.underlying83
  a46 := Tryz.isAgg83
  z46 := Tryz.sizeOf83
  v46 := Tryz.zeroValue83
  t51 := Tryz.underlying176
  a51 := Tryz.isAgg176
  z51 := Tryz.sizeOf176
  v51 := Tryz.zeroValue176
  t53 := Tryz.underlying161
  a53 := Tryz.isAgg161
  z53 := Tryz.sizeOf161
  v53 := Tryz.zeroValue161
  t171 := Tryz.underlying160
  a171 := Tryz.isAgg160
  z171 := Tryz.sizeOf160
  v171 := Tryz.zeroValue160
  t173 := Tryz.underlying164
  a173 := Tryz.isAgg164
  z173 := Tryz.sizeOf164
  v173 := Tryz.zeroValue164
  t212 := Tryz.underlying175
  a212 := Tryz.isAgg175
  z212 := Tryz.sizeOf175
  v212 := Tryz.zeroValue175
  t213 := Tryz.underlying177
  a213 := Tryz.isAgg177
  z213 := Tryz.sizeOf177
  t232 := Tryz.underlying181
  a232 := Tryz.isAgg181
  z232 := Tryz.sizeOf181
  v232 := Tryz.zeroValue181
  t233 := Tryz.underlying182
  a233 := Tryz.isAgg182
  z233 := Tryz.sizeOf182
  v233 := Tryz.zeroValue182
  g17 := by kernel_rfl
  g18 := by kernel_rfl
  g19 := by kernel_rfl
  i0 := by kernel_rfl
  i2 := by kernel_rfl
  i3 := by kernel_rfl
  i4 := by kernel_rfl
  i5 := by kernel_rfl
  i9 := by kernel_rfl
  i20 := by kernel_rfl
  i37 := by kernel_rfl
  i46 := by kernel_rfl
  i51 := by kernel_rfl
  i53 := by kernel_rfl
  i171 := by kernel_rfl
  i173 := by kernel_rfl
  i212 := by kernel_rfl
  i232 := by kernel_rfl
  i233 := by kernel_rfl
  m17 := by kernel_rfl
  m18 := by kernel_rfl
  m19 := by kernel_rfl
theorem is87 : FI 87 Tryz.f87 := ⟨⟨Tryz.f87, Tryz.func87, rfl, rfl, rfl, rfl⟩, rfl⟩
theorem i_Itoa (k : Nat) (hk : k < 100) : FO 87 [I k] [I k] (S ⟨(Lib.decDigits k).toArray⟩) := by
  obtain ⟨fn, hf, hb, hrs, hnt, hname⟩ := is87.ex
  refine ⟨⟨fn, _, hf, hb, hname⟩, fun w S vals fp hS hnd hfp hreps hgl => ?_⟩
  cases hreps with
  | cons a1 t =>
    cases t
    cases a1 with
    | v _ t =>
      cases t
      show Calls Tryz.prog 87 #[.int .i64 k] w _
      refine (Any.strconv_Itoa_small { Tryz.laysItoa with } k hk w).mono ?_
      rintro e w' ⟨rfl, rfl⟩
      refine ⟨[.string ⟨(Lib.decDigits k).toArray⟩], [], [], rfl, rfl, ⟨rfl, rfl, rfl, Nat.le_refl _, fun _ _ _ => rfl⟩, by simp, by simp, .v rfl .nil, ?_⟩
      exact Reps.cons (s := .one) (fp := []) (.v rfl .nil) .nil
theorem i_ItoaG (n : Int) (hn : -9223372036854775808 ≤ n ∧ n ≤ 9223372036854775807) : FO 87 [I n] [I n] (S ⟨(Lib.itoa n).toArray⟩) := by
  obtain ⟨fn, hf, hb, hrs, hnt, hname⟩ := is87.ex
  refine ⟨⟨fn, _, hf, hb, hname⟩, fun w S vals fp hS hnd hfp hreps hgl => ?_⟩
  cases hreps with
  | cons a1 t =>
    cases t
    cases a1 with
    | v _ t =>
      cases t
      show Calls Tryz.prog 87 #[.int .i64 n] w _
      obtain ⟨g, hg⟩ : ∃ g, Tryz.prog.globalNamed "internal/strconv.uint64pow10" = some g := Option.isSome_iff_exists.1 (by kernel_rfl)
      obtain ⟨-, t, fz, hcells⟩ := hgl g pow10s (by unfold tabOf; rw [hg]; rfl)
      have htab : Lib.TabIs Tryz.prog w "internal/strconv.uint64pow10" .u64 Lib.pow10Tab := by
        unfold Lib.TabIs World.var?
        rw [hg]
        show (match w.heap[g]? with | some (.cells cs _ _) => some cs | _ => none) = _
        rw [hcells]
        exact congrArg some (by kernel_rfl)
      refine (Any.strconv_Itoa Tryz.laysItoa n hn.1 hn.2 w htab).mono ?_
      rintro e w' ⟨rfl, k, os, rfl⟩
      have hold : ∀ b, b < w.heap.size → (Sort.grow (w.drewN k) os).heap[b]? = w.heap[b]? := fun b hb => by
        show (w.heap ++ os)[b]? = w.heap[b]?
        exact Array.getElem?_append_left hb
      have hk : Keeps w (Sort.grow (w.drewN k) os) [] := ⟨rfl, rfl, rfl, by simp [Sort.grow], fun b hb _ => hold b hb⟩
      refine ⟨[.string ⟨(Lib.itoa n).toArray⟩], [], [], rfl, rfl, hk, by simp, by simp, .v rfl .nil, ?_⟩
      exact Reps.cons (s := .one) (fp := []) (.v rfl .nil) .nil
theorem ba_app (a b : List UInt8) : (⟨(a ++ b).toArray⟩ : ByteArray) = ⟨a.toArray⟩ ++ ⟨b.toArray⟩ := by
  apply ByteArray.ext
  rw [ByteArray.data_append]
  simp
theorem fmtF_dec : ∀ (k x : Nat) (acc : ByteArray), 0 < x → x < 10 ^ k → fmtF k x acc = ⟨(Lib.decDigits x).toArray⟩ ++ acc
  | 0, x, acc, h, h2 => by omega
  | k + 1, x, acc, h, h2 => by
    rw [fmtF, if_neg (by omega)]
    by_cases h3 : x < 10
    · have e : fmtF k (x / 10) (dgB (x % 10) ++ acc) = dgB (x % 10) ++ acc := by
        rw [show x / 10 = 0 by omega]; cases k <;> simp [fmtF]
      rw [e, Lib.decDigits_one h3, Nat.mod_eq_of_lt h3]; rfl
    · rw [fmtF_dec k (x / 10) _ (by omega) (by rw [Nat.div_lt_iff_lt_mul (by omega)]; rw [Nat.pow_succ] at h2; exact h2)]
      conv => rhs; rw [Lib.decDigits, dif_neg h3, ba_app]
      rw [ByteArray.append_assoc]; rfl
theorem fmtI_itoa (n : Int) (h : -9223372036854775808 ≤ n ∧ n ≤ 9223372036854775807) : (⟨(Lib.itoa n).toArray⟩ : ByteArray) = fmtI n := by
  unfold Lib.itoa fmtI
  by_cases h0 : n = 0
  · subst h0
    rw [if_neg (by omega), if_pos rfl, show (0 : Int).toNat = 0 from rfl, Lib.decDigits_one (by omega)]; rfl
  · rw [if_neg h0]
    by_cases h1 : n < 0
    · rw [if_pos h1, if_pos h1, fmtF_dec 20 n.natAbs _ (by omega) (by omega), ByteArray.append_empty, ← List.singleton_append, ba_app]; rfl
    · rw [if_neg h1, if_neg h1, fmtF_dec 20 n.natAbs _ (by omega) (by omega), ByteArray.append_empty, show n.natAbs = n.toNat by omega]
theorem dec_fmt (k : Nat) (hk : k < 8) : (⟨(Lib.decDigits k).toArray⟩ : ByteArray) = fmtI k := by
  rw [← fmtI_itoa (k : Int) (by omega)]
  unfold Lib.itoa
  rw [if_neg (by omega), Int.toNat_natCast]
theorem is57 : FI 57 Tryz.f57 := ⟨⟨Tryz.f57, Tryz.func57, rfl, rfl, rfl, rfl⟩, rfl⟩
set_option maxRecDepth 20000 in
set_option maxHeartbeats 16000000 in
theorem i_FormatInt (k : Nat) (hk : k < 8) : FO 57 [I k] [I k] (S (fmtI k)) := by
  refine fok envOk mixed is57 ⟨rfl, rfl, ?_⟩
  have h := i_Itoa k (by omega)
  rw [dec_fmt k hk] at h
  (repeat' ((conv => whnf); first | refine stp ?_ | refine Cl.mk (h) ?_ | refine Cl.pre (by simp only [shcLL_ints, shcLL_byts, shcLL_strs, Mani.shcs, Name.shcs, Segm.shcs]; rfl) ?_))
  exact Vs.Fin.mk (WkR.refl _) (.refl _)
set_option maxRecDepth 20000 in
set_option maxHeartbeats 16000000 in
theorem i_FormatIntG (n : Int) (hn : -9223372036854775808 ≤ n ∧ n ≤ 9223372036854775807) : FO 57 [I n] [I n] (S (fmtI n)) := by
  refine fok envOk mixed is57 ⟨rfl, rfl, ?_⟩
  have h := i_ItoaG n hn
  rw [fmtI_itoa n hn] at h
  (repeat' ((conv => whnf); first | refine stp ?_ | refine Cl.mk (h) ?_ | refine Cl.pre (by simp only [shcLL_ints, shcLL_byts, shcLL_strs, Mani.shcs, Name.shcs, Segm.shcs]; rfl) ?_))
  exact Vs.Fin.mk (WkR.refl _) (.refl _)
/-! Names of segments -/
def segB : ByteArray := ⟨#[115]⟩
def segT (i : Int) : ByteArray := segB ++ fmtI i
theorem segT_size (i : Int) : (segT i).size ≤ 22 := by
  have := fmtI_size i
  have e : segB.size = 1 := rfl
  unfold segT; rw [ByteArray.size_append]; omega
def segO (n : Name) (i : Int) : Bool := inR i 0 7 && vName ⟨n.parts ++ [segT i]⟩
def segN (n : Name) (i : Int) : Name := if segO n i then ⟨n.parts ++ [segT i]⟩ else ⟨[]⟩
theorem segN_size {n : Name} {i : Int} (h : strsSize n.parts ≤ 1048576) : Name.size (segN n i) ≤ 1048576000 := by
  have h1 := strs_snoc n.parts (segT i)
  have h2 := segT_size i
  unfold segN
  split
  · show strsSize (n.parts ++ [segT i]) ≤ _; omega
  · show strsSize [] ≤ _; simp [strsSize, sumN]
theorem nb_nil (b : Bool) : WkR (.tup [(true, 1), (false, 1)], [AV.sl true .isnil 0 [], cB b]) (NB ⟨[]⟩ b) := WkR.of (.nils (.refl _))
theorem is29 : FI 29 Tryz.f29 := ⟨⟨Tryz.f29, Tryz.func29, rfl, rfl, rfl, rfl⟩, rfl⟩
set_option maxRecDepth 20000 in
set_option maxHeartbeats 16000000 in
theorem i_SegmentName (n : Name) (i : Int) (hz : strsSize n.parts ≤ 1048576) : FO 29 [A (Name.c false n), I i] [A (Name.c false n), I i] (NB (segN n i) (segO n i)) := by
  refine fok envOk mixed is29 ⟨rfl, rfl, ?_⟩
  have h3 := segT_size i
  have h2 := fmtI_size i
  have hA := i_appended n (segT i) hz (by omega)
  have hN : segN n i = if segO n i then ⟨n.parts ++ [segT i]⟩ else ⟨[]⟩ := rfl
  have hO : segO n i = (inR i 0 7 && vName ⟨n.parts ++ [segT i]⟩) := rfl
  have hP : apZero n (segT i) = if vName ⟨n.parts ++ [segT i]⟩ then ⟨n.parts ++ [segT i]⟩ else ⟨[]⟩ := rfl
  rw [hP] at hA
  have hS := i_InRange i 0 7
  cases hr : inR i 0 7 with
  | false =>
    rw [hr] at hO hS
    have hO2 : segO n i = false := by rw [hO]; rfl
    rw [hN, hO2]
    simp only [Bool.false_eq_true, if_false]
    (repeat' ((conv => whnf); first | refine stp ?_ | refine Cl.mk (hS) ?_ | refine Cl.pre (by simp only [shcLL_ints, shcLL_byts, shcLL_strs, Mani.shcs, Name.shcs, Segm.shcs]; rfl) ?_))
    exact Vs.Fin.mk (nb_nil _) (.refl _)
  | true =>
    rw [hr] at hO hS
    have hO2 : segO n i = vName ⟨n.parts ++ [segT i]⟩ := by rw [hO]; rfl
    rw [hN, hO2]
    have hi : 0 ≤ i ∧ i ≤ 7 := by simpa [inR_t] using hr
    obtain ⟨k, rfl⟩ : ∃ k : Nat, i = k := ⟨i.toNat, by omega⟩
    (repeat' ((conv => whnf); first | refine stp ?_ | refine Cl.mk (hS) ?_ | refine Cl.mk (i_FormatInt k (by omega)) ?_ | refine Rq.mk (str_room (Nat.le_of_ble_eq_true rfl) (by omega)) ?_ | refine Cl.mk (hA) ?_ | refine Cl.pre (by simp only [shcLL_ints, shcLL_byts, shcLL_strs, Mani.shcs, Name.shcs, Segm.shcs]; rfl) ?_))
    exact Vs.Fin.mk (WkR.refl _) (.refl _)
end Go.Proofs.YtoekfmkbkffciaaGreatDoor
