/- Contracts of functions of the program: no statement of the seat is proved here. Each under the conditions that stand in it. -/
import Derived.Test.YtoekfmkbkffciaaWa
import Derived.Shelf.Strconv.Itoa3
import Derived.Ground.NamesProg
set_option linter.all false
namespace Go.Proofs.Ytoekfmkbkffciaa
open Go.Vs Go.Proofs
theorem ba_app (a b : List UInt8) : (⟨(a ++ b).toArray⟩ : ByteArray) = ⟨a.toArray⟩ ++ ⟨b.toArray⟩ := by
  apply ByteArray.ext
  rw [ByteArray.data_append]
  simp
theorem fmtF_dec : ∀ (k x : Nat) (acc : ByteArray), 0 < x → x < 10 ^ k → fmtF k x acc = ⟨(Lib.decDigits x).toArray⟩ ++ acc
  | 0, x, acc, h, h2 => by omega
  | k + 1, x, acc, h, h2 => by
    rw [fmtF, if_neg (by omega)]
    by_cases h3 : x < 10
    · have e : fmtF k (x / 10) (dgB (x % 10) ++ acc) = dgB (x % 10) ++ acc := by
        rw [show x / 10 = 0 by omega]; cases k <;> simp [fmtF]
      rw [e, Lib.decDigits_one h3, Nat.mod_eq_of_lt h3]; rfl
    · rw [fmtF_dec k (x / 10) _ (by omega) (by rw [Nat.div_lt_iff_lt_mul (by omega)]; rw [Nat.pow_succ] at h2; exact h2)]
      conv => rhs; rw [Lib.decDigits, dif_neg h3, ba_app]
      rw [ByteArray.append_assoc]; rfl
theorem fmtI_itoa (n : Int) (h : -9223372036854775808 ≤ n ∧ n ≤ 9223372036854775807) : (⟨(Lib.itoa n).toArray⟩ : ByteArray) = fmtI n := by
  unfold Lib.itoa fmtI
  by_cases h0 : n = 0
  · subst h0
    rw [if_neg (by omega), if_pos rfl, show (0 : Int).toNat = 0 from rfl, Lib.decDigits_one (by omega)]; rfl
  · rw [if_neg h0]
    by_cases h1 : n < 0
    · rw [if_pos h1, if_pos h1, fmtF_dec 20 n.natAbs _ (by omega) (by omega), ByteArray.append_empty, ← List.singleton_append, ba_app]; rfl
    · rw [if_neg h1, if_neg h1, fmtF_dec 20 n.natAbs _ (by omega) (by omega), ByteArray.append_empty, show n.natAbs = n.toNat by omega]
theorem dec_fmt (k : Nat) (hk : k < 8) : (⟨(Lib.decDigits k).toArray⟩ : ByteArray) = fmtI k := by
  rw [← fmtI_itoa (k : Int) (by omega)]
  unfold Lib.itoa
  rw [if_neg (by omega), Int.toNat_natCast]
/-! Names of segments -/
def segB : ByteArray := ⟨#[115]⟩
def segT (i : Int) : ByteArray := segB ++ fmtI i
theorem segT_size (i : Int) : (segT i).size ≤ 22 := by
  have := fmtI_size i
  have e : segB.size = 1 := rfl
  unfold segT; rw [ByteArray.size_append]; omega
def segO (n : Name) (i : Int) : Bool := inR i 0 7 && vName ⟨n.parts ++ [segT i]⟩
def segN (n : Name) (i : Int) : Name := if segO n i then ⟨n.parts ++ [segT i]⟩ else ⟨[]⟩
theorem segN_size {n : Name} {i : Int} (h : strsSize n.parts ≤ 1048576) : Name.size (segN n i) ≤ 1048576000 := by
  have h1 := strs_snoc n.parts (segT i)
  have h2 := segT_size i
  unfold segN
  split
  · show strsSize (n.parts ++ [segT i]) ≤ _; omega
  · show strsSize [] ≤ _; simp [strsSize, sumN]
theorem nb_nil (b : Bool) : WkR (.tup [(true, 1), (false, 1)], [AV.sl true .isnil 0 [], cB b]) (NB ⟨[]⟩ b) := WkR.of (.nils (.refl _))
end Go.Proofs.Ytoekfmkbkffciaa
