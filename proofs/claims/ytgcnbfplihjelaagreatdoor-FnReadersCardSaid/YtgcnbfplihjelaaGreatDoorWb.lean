/- Contracts of functions of the program: no statement of the seat is proved here. Each under the conditions that stand in it. -/
import Derived.Test.YtgcnbfplihjelaaGreatDoorWa
import Derived.Shelf.Strconv.Itoa3
import Derived.Ground.NamesProg
set_option linter.all false
namespace Go.Proofs.YtgcnbfplihjelaaGreatDoor
open Go.Vs Go.Proofs
def Tryz.laysItoa_ren : Go.Shelf.Ren := ⟨fun | 171 => 135 | 243 => 172 | 246 => 198 | 283 => 210 | 284 => 211 | 285 => 212 | 286 => 213 | 129 => 219 | 317 => 218 | 318 => 220 | 319 => 221 | 320 => 222 | 337 => 229 | 338 => 230 | n => n, fun | 3 => 3 | 9 => 9 | 2 => 2 | 4 => 4 | 171 => 207 | 0 => 0 | 53 => 208 | 37 => 22 | 5 => 5 | 173 => 211 | 212 => 218 | 51 => 219 | 20 => 20 | 213 => 220 | 46 => 144 | 232 => 230 | 233 => 231 | n => n, fun | 17 => 0 | 18 => 1 | 19 => 2 | n => n⟩
theorem Tryz.laysItoa : Go.Proofs.LaysM.n171 Tryz.prog Tryz.laysItoa_ren where
  mixed := by kernel_rfl
  f129 := Tryz.func219.trans (congrArg some (by kernel_rfl))
  f171 := Tryz.func135.trans (congrArg some (by kernel_rfl))
  f243 := Tryz.func172.trans (congrArg some (by kernel_rfl))
  f246 := Tryz.func198.trans (congrArg some (by kernel_rfl))
  f283 := Tryz.func210.trans (congrArg some (by kernel_rfl))
  f284 := Tryz.func211.trans (congrArg some (by kernel_rfl))
  f285 := Tryz.func212.trans (congrArg some (by kernel_rfl))
  f286 := Tryz.func213.trans (congrArg some (by kernel_rfl))
  f317 := Tryz.func218.trans (congrArg some (by kernel_rfl))
  f318 := Tryz.func220.trans (congrArg some (by kernel_rfl))
  f319 := Tryz.func221.trans (congrArg some (by kernel_rfl))
  f320 := Tryz.func222.trans (congrArg some (by kernel_rfl))
  f337 := Tryz.func229.trans (congrArg some (by kernel_rfl))
  f338 := Tryz.func230.trans (congrArg some (by kernel_rfl))
  t0 := Tryz.underlying0
  a0 := Tryz.isAgg0
  z0 := Tryz.sizeOf0
  v0 := Tryz.zeroValue0
  t2 := Tryz.underlying2
  a2 := Tryz.isAgg2
  z2 := Tryz.sizeOf2
  v2 := Tryz.zeroValue2
  t3 := Tryz.underlying3
  a3 := Tryz.isAgg3
  z3 := Tryz.sizeOf3
  v3 := Tryz.zeroValue3
  t4 := Tryz.underlying4
  a4 := Tryz.isAgg4
  z4 := Tryz.sizeOf4
  v4 := Tryz.zeroValue4
  t5 := Tryz.underlying5
  a5 := Tryz.isAgg5
  z5 := Tryz.sizeOf5
  v5 := Tryz.zeroValue5
  t9 := Tryz.underlying9
  a9 := Tryz.isAgg9
  z9 := Tryz.sizeOf9
  v9 := Tryz.zeroValue9
  t20 := Tryz.underlying20
  a20 := Tryz.isAgg20
  z20 := Tryz.sizeOf20
  v20 := Tryz.zeroValue20
  t37 := Tryz.underlying22
  a37 := Tryz.isAgg22
  z37 := Tryz.sizeOf22
  v37 := Tryz.zeroValue22
  t46 := Tryz.underlying144
  a46 := Tryz.isAgg144
  z46 := Tryz.sizeOf144
  v46 := Tryz.zeroValue144
  t51 := Tryz.underlying219
  a51 := Tryz.isAgg219
  z51 := Tryz.sizeOf219
  v51 := Tryz.zeroValue219
  t53 := Tryz.underlying208
  a53 := Tryz.isAgg208
  z53 := Tryz.sizeOf208
  v53 := Tryz.zeroValue208
  t171 := Tryz.underlying207
  a171 := Tryz.isAgg207
  z171 := Tryz.sizeOf207
  v171 := Tryz.zeroValue207
  t173 := Tryz.underlying211
  a173 := Tryz.isAgg211
  z173 := Tryz.sizeOf211
  v173 := Tryz.zeroValue211
  t212 := Tryz.underlying218
  a212 := Tryz.isAgg218
  z212 := Tryz.sizeOf218
  v212 := Tryz.zeroValue218
  t213 := Tryz.underlying220
  a213 := Tryz.isAgg220
  z213 := Tryz.sizeOf220
  t232 := Tryz.underlying230
  a232 := Tryz.isAgg230
  z232 := Tryz.sizeOf230
  v232 := Tryz.zeroValue230
  t233 := Tryz.underlying231
  a233 := Tryz.isAgg231
  z233 := Tryz.sizeOf231
  v233 := Tryz.zeroValue231
  g17 := by kernel_rfl
  g18 := by kernel_rfl
  g19 := by kernel_rfl
  i0 := by kernel_rfl
  i2 := by kernel_rfl
  i3 := by kernel_rfl
  i4 := by kernel_rfl
  i5 := by kernel_rfl
  i9 := by kernel_rfl
  i20 := by kernel_rfl
  i37 := by kernel_rfl
  i46 := by kernel_rfl
  i51 := by kernel_rfl
  i53 := by kernel_rfl
  i171 := by kernel_rfl
  i173 := by kernel_rfl
  i212 := by kernel_rfl
  i232 := by kernel_rfl
  i233 := by kernel_rfl
  m17 := by kernel_rfl
  m18 := by kernel_rfl
  m19 := by kernel_rfl
theorem is135 : FI 135 Tryz.f135 := ⟨⟨Tryz.f135, Tryz.func135, rfl, rfl, rfl, rfl⟩, rfl⟩
theorem i_Itoa (k : Nat) (hk : k < 100) : FO 135 [I k] [I k] (S ⟨(Lib.decDigits k).toArray⟩) := by
  obtain ⟨fn, hf, hb, hrs, hnt, hname⟩ := is135.ex
  refine ⟨⟨fn, _, hf, hb, hname⟩, fun w S vals fp hS hnd hfp hreps hgl => ?_⟩
  cases hreps with
  | cons a1 t =>
    cases t
    cases a1 with
    | v _ t =>
      cases t
      show Calls Tryz.prog 135 #[.int .i64 k] w _
      refine (Any.strconv_Itoa_small { Tryz.laysItoa with } k hk w).mono ?_
      rintro e w' ⟨rfl, rfl⟩
      refine ⟨[.string ⟨(Lib.decDigits k).toArray⟩], [], [], rfl, rfl, ⟨rfl, rfl, rfl, Nat.le_refl _, fun _ _ _ => rfl⟩, by simp, by simp, .v rfl .nil, ?_⟩
      exact Reps.cons (s := .one) (fp := []) (.v rfl .nil) .nil
theorem i_ItoaG (n : Int) (hn : -9223372036854775808 ≤ n ∧ n ≤ 9223372036854775807) : FO 135 [I n] [I n] (S ⟨(Lib.itoa n).toArray⟩) := by
  obtain ⟨fn, hf, hb, hrs, hnt, hname⟩ := is135.ex
  refine ⟨⟨fn, _, hf, hb, hname⟩, fun w S vals fp hS hnd hfp hreps hgl => ?_⟩
  cases hreps with
  | cons a1 t =>
    cases t
    cases a1 with
    | v _ t =>
      cases t
      show Calls Tryz.prog 135 #[.int .i64 n] w _
      obtain ⟨g, hg⟩ : ∃ g, Tryz.prog.globalNamed "internal/strconv.uint64pow10" = some g := Option.isSome_iff_exists.1 (by kernel_rfl)
      obtain ⟨-, t, fz, hcells⟩ := hgl g pow10s (by unfold tabOf; rw [hg]; rfl)
      have htab : Lib.TabIs Tryz.prog w "internal/strconv.uint64pow10" .u64 Lib.pow10Tab := by
        unfold Lib.TabIs World.var?
        rw [hg]
        show (match w.heap[g]? with | some (.cells cs _ _) => some cs | _ => none) = _
        rw [hcells]
        exact congrArg some (by kernel_rfl)
      refine (Any.strconv_Itoa Tryz.laysItoa n hn.1 hn.2 w htab).mono ?_
      rintro e w' ⟨rfl, k, os, rfl⟩
      have hold : ∀ b, b < w.heap.size → (Sort.grow (w.drewN k) os).heap[b]? = w.heap[b]? := fun b hb => by
        show (w.heap ++ os)[b]? = w.heap[b]?
        exact Array.getElem?_append_left hb
      have hk : Keeps w (Sort.grow (w.drewN k) os) [] := ⟨rfl, rfl, rfl, by simp [Sort.grow], fun b hb _ => hold b hb⟩
      refine ⟨[.string ⟨(Lib.itoa n).toArray⟩], [], [], rfl, rfl, hk, by simp, by simp, .v rfl .nil, ?_⟩
      exact Reps.cons (s := .one) (fp := []) (.v rfl .nil) .nil
theorem ba_app (a b : List UInt8) : (⟨(a ++ b).toArray⟩ : ByteArray) = ⟨a.toArray⟩ ++ ⟨b.toArray⟩ := by
  apply ByteArray.ext
  rw [ByteArray.data_append]
  simp
theorem fmtF_dec : ∀ (k x : Nat) (acc : ByteArray), 0 < x → x < 10 ^ k → fmtF k x acc = ⟨(Lib.decDigits x).toArray⟩ ++ acc
  | 0, x, acc, h, h2 => by omega
  | k + 1, x, acc, h, h2 => by
    rw [fmtF, if_neg (by omega)]
    by_cases h3 : x < 10
    · have e : fmtF k (x / 10) (dgB (x % 10) ++ acc) = dgB (x % 10) ++ acc := by
        rw [show x / 10 = 0 by omega]; cases k <;> simp [fmtF]
      rw [e, Lib.decDigits_one h3, Nat.mod_eq_of_lt h3]; rfl
    · rw [fmtF_dec k (x / 10) _ (by omega) (by rw [Nat.div_lt_iff_lt_mul (by omega)]; rw [Nat.pow_succ] at h2; exact h2)]
      conv => rhs; rw [Lib.decDigits, dif_neg h3, ba_app]
      rw [ByteArray.append_assoc]; rfl
theorem fmtI_itoa (n : Int) (h : -9223372036854775808 ≤ n ∧ n ≤ 9223372036854775807) : (⟨(Lib.itoa n).toArray⟩ : ByteArray) = fmtI n := by
  unfold Lib.itoa fmtI
  by_cases h0 : n = 0
  · subst h0
    rw [if_neg (by omega), if_pos rfl, show (0 : Int).toNat = 0 from rfl, Lib.decDigits_one (by omega)]; rfl
  · rw [if_neg h0]
    by_cases h1 : n < 0
    · rw [if_pos h1, if_pos h1, fmtF_dec 20 n.natAbs _ (by omega) (by omega), ByteArray.append_empty, ← List.singleton_append, ba_app]; rfl
    · rw [if_neg h1, if_neg h1, fmtF_dec 20 n.natAbs _ (by omega) (by omega), ByteArray.append_empty, show n.natAbs = n.toNat by omega]
theorem dec_fmt (k : Nat) (hk : k < 8) : (⟨(Lib.decDigits k).toArray⟩ : ByteArray) = fmtI k := by
  rw [← fmtI_itoa (k : Int) (by omega)]
  unfold Lib.itoa
  rw [if_neg (by omega), Int.toNat_natCast]
theorem is79 : FI 79 Tryz.f79 := ⟨⟨Tryz.f79, Tryz.func79, rfl, rfl, rfl, rfl⟩, rfl⟩
set_option maxRecDepth 20000 in
set_option maxHeartbeats 16000000 in
theorem i_FormatInt (k : Nat) (hk : k < 8) : FO 79 [I k] [I k] (S (fmtI k)) := by
  refine fok envOk mixed is79 ⟨rfl, rfl, ?_⟩
  have h := i_Itoa k (by omega)
  rw [dec_fmt k hk] at h
  (repeat' ((conv => whnf); first | refine Br.tt ?_ | refine Br.ff ?_ | refine Br.pos (by assumption) ?_ | refine Br.neg (by assumption) ?_ | refine Br.bself ?_ | refine Br.dself ?_ | refine Br.iself ?_ | refine Nm.mk lenC ?_ | refine Nm.mk (wrapI (by (first | omega | (simp [inR_t, inR_f] at *; omega))) (by (first | omega | (simp [inR_t, inR_f] at *; omega)))) ?_ | refine Nm.mk (wrapQ (by (first | omega | (simp [inR_t, inR_f] at *; omega))) (by (first | omega | (simp [inR_t, inR_f] at *; omega))) (by (first | omega | (simp [inR_t, inR_f] at *; omega)))) ?_ | refine Nm.mk (tmodN (by (first | omega | (simp [inR_t, inR_f] at *; omega)))) ?_ | refine Nm.mk (szS _) ?_ | refine Nm.mk (mi_eq _ _) ?_ | refine Nm.mk (ma_eq _ _) ?_ | refine Rq.mk (by first | (simp [dOwnL, dOwn] <;> fail) | (first | omega | (simp [inR_t, inR_f] at *; omega))) ?_ | refine And.intro (orderFast (by kernel_rfl)) ?_ | refine And.intro (by kernel_rfl) ?_ | refine Cl.mk (h) ?_ | refine Cl.pre (by simp only [shcLL_ints, shcLL_byts, shcLL_strs, Mani.shcs, Name.shcs, Segm.shcs]; rfl) ?_))
  exact Vs.Fin.mk (WkR.refl _) (.refl _)
set_option maxRecDepth 20000 in
set_option maxHeartbeats 16000000 in
theorem i_FormatIntG (n : Int) (hn : -9223372036854775808 ≤ n ∧ n ≤ 9223372036854775807) : FO 79 [I n] [I n] (S (fmtI n)) := by
  refine fok envOk mixed is79 ⟨rfl, rfl, ?_⟩
  have h := i_ItoaG n hn
  rw [fmtI_itoa n hn] at h
  (repeat' ((conv => whnf); first | refine Br.tt ?_ | refine Br.ff ?_ | refine Br.pos (by assumption) ?_ | refine Br.neg (by assumption) ?_ | refine Br.bself ?_ | refine Br.dself ?_ | refine Br.iself ?_ | refine Nm.mk lenC ?_ | refine Nm.mk (wrapI (by (first | omega | (simp [inR_t, inR_f] at *; omega))) (by (first | omega | (simp [inR_t, inR_f] at *; omega)))) ?_ | refine Nm.mk (wrapQ (by (first | omega | (simp [inR_t, inR_f] at *; omega))) (by (first | omega | (simp [inR_t, inR_f] at *; omega))) (by (first | omega | (simp [inR_t, inR_f] at *; omega)))) ?_ | refine Nm.mk (tmodN (by (first | omega | (simp [inR_t, inR_f] at *; omega)))) ?_ | refine Nm.mk (szS _) ?_ | refine Nm.mk (mi_eq _ _) ?_ | refine Nm.mk (ma_eq _ _) ?_ | refine Rq.mk (by first | (simp [dOwnL, dOwn] <;> fail) | (first | omega | (simp [inR_t, inR_f] at *; omega))) ?_ | refine And.intro (orderFast (by kernel_rfl)) ?_ | refine And.intro (by kernel_rfl) ?_ | refine Cl.mk (h) ?_ | refine Cl.pre (by simp only [shcLL_ints, shcLL_byts, shcLL_strs, Mani.shcs, Name.shcs, Segm.shcs]; rfl) ?_))
  exact Vs.Fin.mk (WkR.refl _) (.refl _)
/-! Names of segments -/
def segB : ByteArray := ⟨#[115]⟩
def segT (i : Int) : ByteArray := segB ++ fmtI i
theorem segT_size (i : Int) : (segT i).size ≤ 22 := by
  have := fmtI_size i
  have e : segB.size = 1 := rfl
  unfold segT; rw [ByteArray.size_append]; omega
def segO (n : Name) (i : Int) : Bool := inR i 0 7 && vName ⟨n.parts ++ [segT i]⟩
def segN (n : Name) (i : Int) : Name := if segO n i then ⟨n.parts ++ [segT i]⟩ else ⟨[]⟩
theorem segN_size {n : Name} {i : Int} (h : strsSize n.parts ≤ 1048576) : Name.size (segN n i) ≤ 1048576000 := by
  have h1 := strs_snoc n.parts (segT i)
  have h2 := segT_size i
  unfold segN
  split
  · show strsSize (n.parts ++ [segT i]) ≤ _; omega
  · show strsSize [] ≤ _; simp [strsSize, sumN]
theorem nb_nil (b : Bool) : WkR (.tup [(true, 1), (false, 1)], [AV.sl true .isnil 0 [], cB b]) (NB ⟨[]⟩ b) := WkR.of (.nils (.refl _))
theorem is102 : FI 102 Tryz.f102 := ⟨⟨Tryz.f102, Tryz.func102, rfl, rfl, rfl, rfl⟩, rfl⟩
set_option maxRecDepth 20000 in
set_option maxHeartbeats 16000000 in
theorem s_SegmentName (n : Name) (i : Int) (hz : strsSize n.parts ≤ 1048576) (hi : -9223372036854775808 ≤ i ∧ i ≤ 9223372036854775807) : FO 102 [A (Name.c false n), I i] [A (Name.c false n), I i] (NB (segN n i) (segO n i)) := by
  refine fok envOk mixed is102 ⟨rfl, rfl, ?_⟩
  have h2 := fmtI_size i
  have h3 := segT_size i
  have hA := s_AppendPart n (segT i) hz (by omega)
  have hN : segN n i = if segO n i then ⟨n.parts ++ [segT i]⟩ else ⟨[]⟩ := rfl
  have hO : segO n i = (inR i 0 7 && vName ⟨n.parts ++ [segT i]⟩) := rfl
  have hP : apName n (segT i) = if vName ⟨n.parts ++ [segT i]⟩ then ⟨n.parts ++ [segT i]⟩ else n := rfl
  rw [hP] at hA
  generalize hv : vName ⟨n.parts ++ [segT i]⟩ = v at hO hA
  generalize hr : inR i 0 7 = b at hO
  have hS := s_l1In i 0 7
  rw [hr] at hS
  cases v with
  | false =>
    have hO2 : segO n i = false := by rw [hO]; simp
    rw [hN, hO2]
    simp only [Bool.false_eq_true, if_false] at hA ⊢
    (repeat' ((conv => whnf); first | refine Br.tt ?_ | refine Br.ff ?_ | refine Br.pos (by assumption) ?_ | refine Br.neg (by assumption) ?_ | refine Br.bself ?_ | refine Br.dself ?_ | refine Br.iself ?_ | refine Nm.mk lenC ?_ | refine Nm.mk (wrapI (by (first | omega | (simp [inR_t, inR_f] at *; omega))) (by (first | omega | (simp [inR_t, inR_f] at *; omega)))) ?_ | refine Nm.mk (wrapQ (by (first | omega | (simp [inR_t, inR_f] at *; omega))) (by (first | omega | (simp [inR_t, inR_f] at *; omega))) (by (first | omega | (simp [inR_t, inR_f] at *; omega)))) ?_ | refine Nm.mk (tmodN (by (first | omega | (simp [inR_t, inR_f] at *; omega)))) ?_ | refine Nm.mk (szS _) ?_ | refine Nm.mk (mi_eq _ _) ?_ | refine Nm.mk (ma_eq _ _) ?_ | refine Rq.mk (by first | (simp [dOwnL, dOwn] <;> fail) | (first | omega | (simp [inR_t, inR_f] at *; omega))) ?_ | refine And.intro (orderFast (by kernel_rfl)) ?_ | refine And.intro (by kernel_rfl) ?_ | refine Cl.mk (s_FormatInt i hi) ?_ | refine Rq.mk (str_room (Nat.le_of_ble_eq_true rfl) (by omega)) ?_ | refine Cl.mk (hA) ?_ | refine Cl.pre (by simp only [shcLL_ints, shcLL_byts, shcLL_strs, Mani.shcs, Name.shcs, Segm.shcs]; rfl) ?_))
    exact Vs.Fin.mk (nb_nil _) (.refl _)
  | true =>
    simp only [if_true] at hA
    cases b with
    | false =>
      have hO2 : segO n i = false := by rw [hO]; rfl
      rw [hN, hO2]
      simp only [Bool.false_eq_true, if_false]
      (repeat' ((conv => whnf); first | refine Br.tt ?_ | refine Br.ff ?_ | refine Br.pos (by assumption) ?_ | refine Br.neg (by assumption) ?_ | refine Br.bself ?_ | refine Br.dself ?_ | refine Br.iself ?_ | refine Nm.mk lenC ?_ | refine Nm.mk (wrapI (by (first | omega | (simp [inR_t, inR_f] at *; omega))) (by (first | omega | (simp [inR_t, inR_f] at *; omega)))) ?_ | refine Nm.mk (wrapQ (by (first | omega | (simp [inR_t, inR_f] at *; omega))) (by (first | omega | (simp [inR_t, inR_f] at *; omega))) (by (first | omega | (simp [inR_t, inR_f] at *; omega)))) ?_ | refine Nm.mk (tmodN (by (first | omega | (simp [inR_t, inR_f] at *; omega)))) ?_ | refine Nm.mk (szS _) ?_ | refine Nm.mk (mi_eq _ _) ?_ | refine Nm.mk (ma_eq _ _) ?_ | refine Rq.mk (by first | (simp [dOwnL, dOwn] <;> fail) | (first | omega | (simp [inR_t, inR_f] at *; omega))) ?_ | refine And.intro (orderFast (by kernel_rfl)) ?_ | refine And.intro (by kernel_rfl) ?_ | refine Cl.mk (s_FormatInt i hi) ?_ | refine Rq.mk (str_room (Nat.le_of_ble_eq_true rfl) (by omega)) ?_ | refine Cl.mk (hA) ?_ | refine Cl.mk (hS) ?_ | refine Cl.pre (by simp only [shcLL_ints, shcLL_byts, shcLL_strs, Mani.shcs, Name.shcs, Segm.shcs]; rfl) ?_))
      exact Vs.Fin.mk (nb_nil _) (.refl _)
    | true =>
      have hO2 : segO n i = true := by rw [hO]; rfl
      rw [hN, hO2]
      simp only [if_true]
      (repeat' ((conv => whnf); first | refine Br.tt ?_ | refine Br.ff ?_ | refine Br.pos (by assumption) ?_ | refine Br.neg (by assumption) ?_ | refine Br.bself ?_ | refine Br.dself ?_ | refine Br.iself ?_ | refine Nm.mk lenC ?_ | refine Nm.mk (wrapI (by (first | omega | (simp [inR_t, inR_f] at *; omega))) (by (first | omega | (simp [inR_t, inR_f] at *; omega)))) ?_ | refine Nm.mk (wrapQ (by (first | omega | (simp [inR_t, inR_f] at *; omega))) (by (first | omega | (simp [inR_t, inR_f] at *; omega))) (by (first | omega | (simp [inR_t, inR_f] at *; omega)))) ?_ | refine Nm.mk (tmodN (by (first | omega | (simp [inR_t, inR_f] at *; omega)))) ?_ | refine Nm.mk (szS _) ?_ | refine Nm.mk (mi_eq _ _) ?_ | refine Nm.mk (ma_eq _ _) ?_ | refine Rq.mk (by first | (simp [dOwnL, dOwn] <;> fail) | (first | omega | (simp [inR_t, inR_f] at *; omega))) ?_ | refine And.intro (orderFast (by kernel_rfl)) ?_ | refine And.intro (by kernel_rfl) ?_ | refine Cl.mk (s_FormatInt i hi) ?_ | refine Rq.mk (str_room (Nat.le_of_ble_eq_true rfl) (by omega)) ?_ | refine Cl.mk (hA) ?_ | refine Cl.mk (hS) ?_ | refine Cl.pre (by simp only [shcLL_ints, shcLL_byts, shcLL_strs, Mani.shcs, Name.shcs, Segm.shcs]; rfl) ?_))
      exact Vs.Fin.mk (WkR.refl _) (.refl _)
theorem is97 : FI 97 Tryz.f97 := ⟨⟨Tryz.f97, Tryz.func97, rfl, rfl, rfl, rfl⟩, rfl⟩
set_option maxRecDepth 20000 in
set_option maxHeartbeats 16000000 in
theorem i_SegmentName (n : Name) (i : Int) (hz : strsSize n.parts ≤ 1048576) : FO 97 [A (Name.c false n), I i] [A (Name.c false n), I i] (NB (segN n i) (segO n i)) := by
  refine fok envOk mixed is97 ⟨rfl, rfl, ?_⟩
  have h3 := segT_size i
  have h2 := fmtI_size i
  have hA := i_appended n (segT i) hz (by omega)
  have hN : segN n i = if segO n i then ⟨n.parts ++ [segT i]⟩ else ⟨[]⟩ := rfl
  have hO : segO n i = (inR i 0 7 && vName ⟨n.parts ++ [segT i]⟩) := rfl
  have hP : apZero n (segT i) = if vName ⟨n.parts ++ [segT i]⟩ then ⟨n.parts ++ [segT i]⟩ else ⟨[]⟩ := rfl
  rw [hP] at hA
  have hS := i_InRange i 0 7
  cases hr : inR i 0 7 with
  | false =>
    rw [hr] at hO hS
    have hO2 : segO n i = false := by rw [hO]; rfl
    rw [hN, hO2]
    simp only [Bool.false_eq_true, if_false]
    (repeat' ((conv => whnf); first | refine Br.tt ?_ | refine Br.ff ?_ | refine Br.pos (by assumption) ?_ | refine Br.neg (by assumption) ?_ | refine Br.bself ?_ | refine Br.dself ?_ | refine Br.iself ?_ | refine Nm.mk lenC ?_ | refine Nm.mk (wrapI (by (first | omega | (simp [inR_t, inR_f] at *; omega))) (by (first | omega | (simp [inR_t, inR_f] at *; omega)))) ?_ | refine Nm.mk (wrapQ (by (first | omega | (simp [inR_t, inR_f] at *; omega))) (by (first | omega | (simp [inR_t, inR_f] at *; omega))) (by (first | omega | (simp [inR_t, inR_f] at *; omega)))) ?_ | refine Nm.mk (tmodN (by (first | omega | (simp [inR_t, inR_f] at *; omega)))) ?_ | refine Nm.mk (szS _) ?_ | refine Nm.mk (mi_eq _ _) ?_ | refine Nm.mk (ma_eq _ _) ?_ | refine Rq.mk (by first | (simp [dOwnL, dOwn] <;> fail) | (first | omega | (simp [inR_t, inR_f] at *; omega))) ?_ | refine And.intro (orderFast (by kernel_rfl)) ?_ | refine And.intro (by kernel_rfl) ?_ | refine Cl.mk (hS) ?_ | refine Cl.pre (by simp only [shcLL_ints, shcLL_byts, shcLL_strs, Mani.shcs, Name.shcs, Segm.shcs]; rfl) ?_))
    exact Vs.Fin.mk (nb_nil _) (.refl _)
  | true =>
    rw [hr] at hO hS
    have hO2 : segO n i = vName ⟨n.parts ++ [segT i]⟩ := by rw [hO]; rfl
    rw [hN, hO2]
    have hi : 0 ≤ i ∧ i ≤ 7 := by simpa [inR_t] using hr
    obtain ⟨k, rfl⟩ : ∃ k : Nat, i = k := ⟨i.toNat, by omega⟩
    (repeat' ((conv => whnf); first | refine Br.tt ?_ | refine Br.ff ?_ | refine Br.pos (by assumption) ?_ | refine Br.neg (by assumption) ?_ | refine Br.bself ?_ | refine Br.dself ?_ | refine Br.iself ?_ | refine Nm.mk lenC ?_ | refine Nm.mk (wrapI (by (first | omega | (simp [inR_t, inR_f] at *; omega))) (by (first | omega | (simp [inR_t, inR_f] at *; omega)))) ?_ | refine Nm.mk (wrapQ (by (first | omega | (simp [inR_t, inR_f] at *; omega))) (by (first | omega | (simp [inR_t, inR_f] at *; omega))) (by (first | omega | (simp [inR_t, inR_f] at *; omega)))) ?_ | refine Nm.mk (tmodN (by (first | omega | (simp [inR_t, inR_f] at *; omega)))) ?_ | refine Nm.mk (szS _) ?_ | refine Nm.mk (mi_eq _ _) ?_ | refine Nm.mk (ma_eq _ _) ?_ | refine Rq.mk (by first | (simp [dOwnL, dOwn] <;> fail) | (first | omega | (simp [inR_t, inR_f] at *; omega))) ?_ | refine And.intro (orderFast (by kernel_rfl)) ?_ | refine And.intro (by kernel_rfl) ?_ | refine Cl.mk (hS) ?_ | refine Cl.mk (i_FormatInt k (by omega)) ?_ | refine Rq.mk (str_room (Nat.le_of_ble_eq_true rfl) (by omega)) ?_ | refine Cl.mk (hA) ?_ | refine Cl.pre (by simp only [shcLL_ints, shcLL_byts, shcLL_strs, Mani.shcs, Name.shcs, Segm.shcs]; rfl) ?_))
    exact Vs.Fin.mk (WkR.refl _) (.refl _)
end Go.Proofs.YtgcnbfplihjelaaGreatDoor
