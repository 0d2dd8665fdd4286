/- Contracts of functions of the program: no statement of the seat is proved here. Each under the conditions that stand in it. -/
import Derived.Test.YtckjlakfnpapgaaDoorWa
import Derived.Shelf.Strconv.Itoa3
import Derived.Shelf.Lay
import Derived.Ground.NamesProg
set_option linter.all false
namespace Go.Proofs.YtckjlakfnpapgaaDoor
open Go.Vs Go.Proofs
open Go.Shelf in
shelf_lay LaysM.n171 Nm 171 at Tryd as Tryd.laysItoa
theorem is30 : FI 30 Tryd.f30 := ⟨⟨Tryd.f30, Tryd.func30, rfl, rfl, rfl, rfl⟩, rfl⟩
theorem i_Itoa (k : Nat) (hk : k < 100) : FO 30 [I k] [I k] (S ⟨(Lib.decDigits k).toArray⟩) := by
  obtain ⟨fn, hf, hb, hrs, hnt, hname⟩ := is30.ex
  refine ⟨⟨fn, _, hf, hb, hname⟩, fun w S vals fp hS hnd hfp hreps => ?_⟩
  cases hreps with
  | cons a1 t =>
    cases t
    cases a1 with
    | v _ t =>
      cases t
      show Calls Tryd.prog 30 #[.int .i64 k] w _
      refine (Any.strconv_Itoa_small { Tryd.laysItoa with } k hk w).mono ?_
      rintro e w' ⟨rfl, rfl⟩
      refine ⟨[.string ⟨(Lib.decDigits k).toArray⟩], [], [], rfl, rfl, ⟨rfl, rfl, rfl, Nat.le_refl _, fun _ _ _ => rfl⟩, by simp, by simp, .v rfl .nil, ?_⟩
      exact Reps.cons (s := .one) (fp := []) (.v rfl .nil) .nil
theorem ba_app (a b : List UInt8) : (⟨(a ++ b).toArray⟩ : ByteArray) = ⟨a.toArray⟩ ++ ⟨b.toArray⟩ := by
  apply ByteArray.ext
  rw [ByteArray.data_append]
  simp
theorem fmtF_dec : ∀ (k x : Nat) (acc : ByteArray), 0 < x → x < 10 ^ k → fmtF k x acc = ⟨(Lib.decDigits x).toArray⟩ ++ acc
  | 0, x, acc, h, h2 => by omega
  | k + 1, x, acc, h, h2 => by
    rw [fmtF, if_neg (by omega)]
    by_cases h3 : x < 10
    · have e : fmtF k (x / 10) (dgB (x % 10) ++ acc) = dgB (x % 10) ++ acc := by
        rw [show x / 10 = 0 by omega]; cases k <;> simp [fmtF]
      rw [e, Lib.decDigits_one h3, Nat.mod_eq_of_lt h3]; rfl
    · rw [fmtF_dec k (x / 10) _ (by omega) (by rw [Nat.div_lt_iff_lt_mul (by omega)]; rw [Nat.pow_succ] at h2; exact h2)]
      conv => rhs; rw [Lib.decDigits, dif_neg h3, ba_app]
      rw [ByteArray.append_assoc]; rfl
theorem fmtI_itoa (n : Int) (h : -9223372036854775808 ≤ n ∧ n ≤ 9223372036854775807) : (⟨(Lib.itoa n).toArray⟩ : ByteArray) = fmtI n := by
  unfold Lib.itoa fmtI
  by_cases h0 : n = 0
  · subst h0
    rw [if_neg (by omega), if_pos rfl, show (0 : Int).toNat = 0 from rfl, Lib.decDigits_one (by omega)]; rfl
  · rw [if_neg h0]
    by_cases h1 : n < 0
    · rw [if_pos h1, if_pos h1, fmtF_dec 20 n.natAbs _ (by omega) (by omega), ByteArray.append_empty, ← List.singleton_append, ba_app]; rfl
    · rw [if_neg h1, if_neg h1, fmtF_dec 20 n.natAbs _ (by omega) (by omega), ByteArray.append_empty, show n.natAbs = n.toNat by omega]
theorem dec_fmt (k : Nat) (hk : k < 8) : (⟨(Lib.decDigits k).toArray⟩ : ByteArray) = fmtI k := by
  rw [← fmtI_itoa (k : Int) (by omega)]
  unfold Lib.itoa
  rw [if_neg (by omega), Int.toNat_natCast]
theorem is21 : FI 21 Tryd.f21 := ⟨⟨Tryd.f21, Tryd.func21, rfl, rfl, rfl, rfl⟩, rfl⟩
set_option maxRecDepth 20000 in
set_option maxHeartbeats 16000000 in
theorem i_FormatInt (k : Nat) (hk : k < 8) : FO 21 [I k] [I k] (S (fmtI k)) := by
  refine fok envOk mixed is21 ⟨rfl, rfl, ?_⟩
  have h := i_Itoa k (by omega)
  rw [dec_fmt k hk] at h
  (repeat' ((conv => whnf); first | refine Br.tt ?_ | refine Br.ff ?_ | refine Br.pos (by assumption) ?_ | refine Br.neg (by assumption) ?_ | refine Br.bself ?_ | refine Br.dself ?_ | refine Br.iself ?_ | refine Nm.mk lenC ?_ | refine Nm.mk (wrapI (by (first | omega | (simp [inR_t, inR_f] at *; omega))) (by (first | omega | (simp [inR_t, inR_f] at *; omega)))) ?_ | refine Nm.mk (wrapQ (by (first | omega | (simp [inR_t, inR_f] at *; omega))) (by (first | omega | (simp [inR_t, inR_f] at *; omega))) (by (first | omega | (simp [inR_t, inR_f] at *; omega)))) ?_ | refine Nm.mk (tmodN (by (first | omega | (simp [inR_t, inR_f] at *; omega)))) ?_ | refine Nm.mk (szS _) ?_ | refine Nm.mk (mi_eq _ _) ?_ | refine Nm.mk (ma_eq _ _) ?_ | refine Rq.mk (by first | (simp [dOwnL, dOwn] <;> fail) | (first | omega | (simp [inR_t, inR_f] at *; omega))) ?_ | refine And.intro (orderFast (by kernel_rfl)) ?_ | refine And.intro (by kernel_rfl) ?_ | refine Cl.mk (h) ?_ | refine Cl.pre (by simp only [shcLL_ints, shcLL_byts, shcLL_strs, Mani.shcs, Name.shcs, Segm.shcs]; rfl) ?_))
  exact Vs.Fin.mk (WkR.refl _) (.refl _)
/-! Names of segments -/
def segB : ByteArray := ⟨#[115]⟩
def segT (i : Int) : ByteArray := segB ++ fmtI i
theorem segT_size (i : Int) : (segT i).size ≤ 22 := by
  have := fmtI_size i
  have e : segB.size = 1 := rfl
  unfold segT; rw [ByteArray.size_append]; omega
def segO (n : Name) (i : Int) : Bool := inR i 0 7 && vName ⟨n.parts ++ [segT i]⟩
def segN (n : Name) (i : Int) : Name := if segO n i then ⟨n.parts ++ [segT i]⟩ else ⟨[]⟩
theorem segN_size {n : Name} {i : Int} (h : strsSize n.parts ≤ 1048576) : Name.size (segN n i) ≤ 1048576000 := by
  have h1 := strs_snoc n.parts (segT i)
  have h2 := segT_size i
  unfold segN
  split
  · show strsSize (n.parts ++ [segT i]) ≤ _; omega
  · show strsSize [] ≤ _; simp [strsSize, sumN]
theorem nb_nil (b : Bool) : WkR (.tup [(true, 1), (false, 1)], [AV.sl true .isnil 0 [], cB b]) (NB ⟨[]⟩ b) := WkR.of (.nils (.refl _))
theorem is6 : FI 6 Tryd.f6 := ⟨⟨Tryd.f6, Tryd.func6, rfl, rfl, rfl, rfl⟩, rfl⟩
set_option maxRecDepth 20000 in
set_option maxHeartbeats 16000000 in
theorem s_SegmentName (n : Name) (i : Int) (hz : strsSize n.parts ≤ 1048576) (hi : -9223372036854775808 ≤ i ∧ i ≤ 9223372036854775807) : FO 6 [A (Name.c false n), I i] [A (Name.c false n), I i] (NB (segN n i) (segO n i)) := by
  refine fok envOk mixed is6 ⟨rfl, rfl, ?_⟩
  have h2 := fmtI_size i
  have h3 := segT_size i
  have hA := s_AppendPart n (segT i) hz (by omega)
  have hN : segN n i = if segO n i then ⟨n.parts ++ [segT i]⟩ else ⟨[]⟩ := rfl
  have hO : segO n i = (inR i 0 7 && vName ⟨n.parts ++ [segT i]⟩) := rfl
  have hP : apName n (segT i) = if vName ⟨n.parts ++ [segT i]⟩ then ⟨n.parts ++ [segT i]⟩ else n := rfl
  rw [hP] at hA
  generalize hv : vName ⟨n.parts ++ [segT i]⟩ = v at hO hA
  generalize hr : inR i 0 7 = b at hO
  have hS := s_l1In i 0 7
  rw [hr] at hS
  cases v with
  | false =>
    have hO2 : segO n i = false := by rw [hO]; simp
    rw [hN, hO2]
    simp only [Bool.false_eq_true, if_false] at hA ⊢
    (repeat' ((conv => whnf); first | refine Br.tt ?_ | refine Br.ff ?_ | refine Br.pos (by assumption) ?_ | refine Br.neg (by assumption) ?_ | refine Br.bself ?_ | refine Br.dself ?_ | refine Br.iself ?_ | refine Nm.mk lenC ?_ | refine Nm.mk (wrapI (by (first | omega | (simp [inR_t, inR_f] at *; omega))) (by (first | omega | (simp [inR_t, inR_f] at *; omega)))) ?_ | refine Nm.mk (wrapQ (by (first | omega | (simp [inR_t, inR_f] at *; omega))) (by (first | omega | (simp [inR_t, inR_f] at *; omega))) (by (first | omega | (simp [inR_t, inR_f] at *; omega)))) ?_ | refine Nm.mk (tmodN (by (first | omega | (simp [inR_t, inR_f] at *; omega)))) ?_ | refine Nm.mk (szS _) ?_ | refine Nm.mk (mi_eq _ _) ?_ | refine Nm.mk (ma_eq _ _) ?_ | refine Rq.mk (by first | (simp [dOwnL, dOwn] <;> fail) | (first | omega | (simp [inR_t, inR_f] at *; omega))) ?_ | refine And.intro (orderFast (by kernel_rfl)) ?_ | refine And.intro (by kernel_rfl) ?_ | refine Cl.mk (s_FormatInt i hi) ?_ | refine Rq.mk (str_room (Nat.le_of_ble_eq_true rfl) (by omega)) ?_ | refine Cl.mk (hA) ?_ | refine Cl.pre (by simp only [shcLL_ints, shcLL_byts, shcLL_strs, Mani.shcs, Name.shcs, Segm.shcs]; rfl) ?_))
    exact Vs.Fin.mk (nb_nil _) (.refl _)
  | true =>
    simp only [if_true] at hA
    cases b with
    | false =>
      have hO2 : segO n i = false := by rw [hO]; rfl
      rw [hN, hO2]
      simp only [Bool.false_eq_true, if_false]
      (repeat' ((conv => whnf); first | refine Br.tt ?_ | refine Br.ff ?_ | refine Br.pos (by assumption) ?_ | refine Br.neg (by assumption) ?_ | refine Br.bself ?_ | refine Br.dself ?_ | refine Br.iself ?_ | refine Nm.mk lenC ?_ | refine Nm.mk (wrapI (by (first | omega | (simp [inR_t, inR_f] at *; omega))) (by (first | omega | (simp [inR_t, inR_f] at *; omega)))) ?_ | refine Nm.mk (wrapQ (by (first | omega | (simp [inR_t, inR_f] at *; omega))) (by (first | omega | (simp [inR_t, inR_f] at *; omega))) (by (first | omega | (simp [inR_t, inR_f] at *; omega)))) ?_ | refine Nm.mk (tmodN (by (first | omega | (simp [inR_t, inR_f] at *; omega)))) ?_ | refine Nm.mk (szS _) ?_ | refine Nm.mk (mi_eq _ _) ?_ | refine Nm.mk (ma_eq _ _) ?_ | refine Rq.mk (by first | (simp [dOwnL, dOwn] <;> fail) | (first | omega | (simp [inR_t, inR_f] at *; omega))) ?_ | refine And.intro (orderFast (by kernel_rfl)) ?_ | refine And.intro (by kernel_rfl) ?_ | refine Cl.mk (s_FormatInt i hi) ?_ | refine Rq.mk (str_room (Nat.le_of_ble_eq_true rfl) (by omega)) ?_ | refine Cl.mk (hA) ?_ | refine Cl.mk (hS) ?_ | refine Cl.pre (by simp only [shcLL_ints, shcLL_byts, shcLL_strs, Mani.shcs, Name.shcs, Segm.shcs]; rfl) ?_))
      exact Vs.Fin.mk (nb_nil _) (.refl _)
    | true =>
      have hO2 : segO n i = true := by rw [hO]; rfl
      rw [hN, hO2]
      simp only [if_true]
      (repeat' ((conv => whnf); first | refine Br.tt ?_ | refine Br.ff ?_ | refine Br.pos (by assumption) ?_ | refine Br.neg (by assumption) ?_ | refine Br.bself ?_ | refine Br.dself ?_ | refine Br.iself ?_ | refine Nm.mk lenC ?_ | refine Nm.mk (wrapI (by (first | omega | (simp [inR_t, inR_f] at *; omega))) (by (first | omega | (simp [inR_t, inR_f] at *; omega)))) ?_ | refine Nm.mk (wrapQ (by (first | omega | (simp [inR_t, inR_f] at *; omega))) (by (first | omega | (simp [inR_t, inR_f] at *; omega))) (by (first | omega | (simp [inR_t, inR_f] at *; omega)))) ?_ | refine Nm.mk (tmodN (by (first | omega | (simp [inR_t, inR_f] at *; omega)))) ?_ | refine Nm.mk (szS _) ?_ | refine Nm.mk (mi_eq _ _) ?_ | refine Nm.mk (ma_eq _ _) ?_ | refine Rq.mk (by first | (simp [dOwnL, dOwn] <;> fail) | (first | omega | (simp [inR_t, inR_f] at *; omega))) ?_ | refine And.intro (orderFast (by kernel_rfl)) ?_ | refine And.intro (by kernel_rfl) ?_ | refine Cl.mk (s_FormatInt i hi) ?_ | refine Rq.mk (str_room (Nat.le_of_ble_eq_true rfl) (by omega)) ?_ | refine Cl.mk (hA) ?_ | refine Cl.mk (hS) ?_ | refine Cl.pre (by simp only [shcLL_ints, shcLL_byts, shcLL_strs, Mani.shcs, Name.shcs, Segm.shcs]; rfl) ?_))
      exact Vs.Fin.mk (WkR.refl _) (.refl _)
theorem is8 : FI 8 Tryd.f8 := ⟨⟨Tryd.f8, Tryd.func8, rfl, rfl, rfl, rfl⟩, rfl⟩
set_option maxRecDepth 20000 in
set_option maxHeartbeats 16000000 in
theorem i_SegmentName (n : Name) (i : Int) (hz : strsSize n.parts ≤ 1048576) : FO 8 [A (Name.c false n), I i] [A (Name.c false n), I i] (NB (segN n i) (segO n i)) := by
  refine fok envOk mixed is8 ⟨rfl, rfl, ?_⟩
  have h3 := segT_size i
  have h2 := fmtI_size i
  have hA := i_appended n (segT i) hz (by omega)
  have hN : segN n i = if segO n i then ⟨n.parts ++ [segT i]⟩ else ⟨[]⟩ := rfl
  have hO : segO n i = (inR i 0 7 && vName ⟨n.parts ++ [segT i]⟩) := rfl
  have hP : apZero n (segT i) = if vName ⟨n.parts ++ [segT i]⟩ then ⟨n.parts ++ [segT i]⟩ else ⟨[]⟩ := rfl
  rw [hP] at hA
  have hS := i_InRange i 0 7
  cases hr : inR i 0 7 with
  | false =>
    rw [hr] at hO hS
    have hO2 : segO n i = false := by rw [hO]; rfl
    rw [hN, hO2]
    simp only [Bool.false_eq_true, if_false]
    (repeat' ((conv => whnf); first | refine Br.tt ?_ | refine Br.ff ?_ | refine Br.pos (by assumption) ?_ | refine Br.neg (by assumption) ?_ | refine Br.bself ?_ | refine Br.dself ?_ | refine Br.iself ?_ | refine Nm.mk lenC ?_ | refine Nm.mk (wrapI (by (first | omega | (simp [inR_t, inR_f] at *; omega))) (by (first | omega | (simp [inR_t, inR_f] at *; omega)))) ?_ | refine Nm.mk (wrapQ (by (first | omega | (simp [inR_t, inR_f] at *; omega))) (by (first | omega | (simp [inR_t, inR_f] at *; omega))) (by (first | omega | (simp [inR_t, inR_f] at *; omega)))) ?_ | refine Nm.mk (tmodN (by (first | omega | (simp [inR_t, inR_f] at *; omega)))) ?_ | refine Nm.mk (szS _) ?_ | refine Nm.mk (mi_eq _ _) ?_ | refine Nm.mk (ma_eq _ _) ?_ | refine Rq.mk (by first | (simp [dOwnL, dOwn] <;> fail) | (first | omega | (simp [inR_t, inR_f] at *; omega))) ?_ | refine And.intro (orderFast (by kernel_rfl)) ?_ | refine And.intro (by kernel_rfl) ?_ | refine Cl.mk (hS) ?_ | refine Cl.pre (by simp only [shcLL_ints, shcLL_byts, shcLL_strs, Mani.shcs, Name.shcs, Segm.shcs]; rfl) ?_))
    exact Vs.Fin.mk (nb_nil _) (.refl _)
  | true =>
    rw [hr] at hO hS
    have hO2 : segO n i = vName ⟨n.parts ++ [segT i]⟩ := by rw [hO]; rfl
    rw [hN, hO2]
    have hi : 0 ≤ i ∧ i ≤ 7 := by simpa [inR_t] using hr
    obtain ⟨k, rfl⟩ : ∃ k : Nat, i = k := ⟨i.toNat, by omega⟩
    (repeat' ((conv => whnf); first | refine Br.tt ?_ | refine Br.ff ?_ | refine Br.pos (by assumption) ?_ | refine Br.neg (by assumption) ?_ | refine Br.bself ?_ | refine Br.dself ?_ | refine Br.iself ?_ | refine Nm.mk lenC ?_ | refine Nm.mk (wrapI (by (first | omega | (simp [inR_t, inR_f] at *; omega))) (by (first | omega | (simp [inR_t, inR_f] at *; omega)))) ?_ | refine Nm.mk (wrapQ (by (first | omega | (simp [inR_t, inR_f] at *; omega))) (by (first | omega | (simp [inR_t, inR_f] at *; omega))) (by (first | omega | (simp [inR_t, inR_f] at *; omega)))) ?_ | refine Nm.mk (tmodN (by (first | omega | (simp [inR_t, inR_f] at *; omega)))) ?_ | refine Nm.mk (szS _) ?_ | refine Nm.mk (mi_eq _ _) ?_ | refine Nm.mk (ma_eq _ _) ?_ | refine Rq.mk (by first | (simp [dOwnL, dOwn] <;> fail) | (first | omega | (simp [inR_t, inR_f] at *; omega))) ?_ | refine And.intro (orderFast (by kernel_rfl)) ?_ | refine And.intro (by kernel_rfl) ?_ | refine Cl.mk (hS) ?_ | refine Cl.mk (i_FormatInt k (by omega)) ?_ | refine Rq.mk (str_room (Nat.le_of_ble_eq_true rfl) (by omega)) ?_ | refine Cl.mk (hA) ?_ | refine Cl.pre (by simp only [shcLL_ints, shcLL_byts, shcLL_strs, Mani.shcs, Name.shcs, Segm.shcs]; rfl) ?_))
    exact Vs.Fin.mk (WkR.refl _) (.refl _)
end Go.Proofs.YtckjlakfnpapgaaDoor
