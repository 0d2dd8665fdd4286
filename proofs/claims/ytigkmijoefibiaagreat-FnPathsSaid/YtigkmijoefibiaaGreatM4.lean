/- Contracts of functions of the program: no statement of the seat is proved here. Each under the conditions that stand in it. -/
import Derived.Test.YtigkmijoefibiaaGreatFn
import Derived.Shelf.Strconv.Itoa3
import Derived.Ground.NamesProg
import Derived.Test.YtigkmijoefibiaaGreatFl
import Derived.Test.YtigkmijoefibiaaGreatM2
import Derived.Test.YtigkmijoefibiaaGreatM3
import Derived.Test.YtigkmijoefibiaaGreatSb
import Derived.Test.YtigkmijoefibiaaGreatFd
import Derived.Test.YtigkmijoefibiaaGreatFr
import Derived.Test.YtigkmijoefibiaaGreatNa
import Derived.Test.YtigkmijoefibiaaGreatTc
import Derived.Test.YtigkmijoefibiaaGreatTd
set_option linter.all false
namespace Go.Proofs.YtigkmijoefibiaaGreat
open Go.Vs Go.Proofs
/-! Integers, as text -/
def dgB (d : Nat) : ByteArray := ⟨#[UInt8.ofNat (48 + d)]⟩
def fmtF : Nat → Nat → ByteArray → ByteArray
  | 0, _, acc => acc
  | k + 1, x, acc => if x = 0 then acc else fmtF k (x / 10) (dgB (x % 10) ++ acc)
def minusB : ByteArray := ⟨#[45]⟩
def zeroB : ByteArray := ⟨#[48]⟩
def fmtI (n : Int) : ByteArray := if n = 0 then zeroB else if n < 0 then minusB ++ fmtF 20 n.natAbs ByteArray.empty else fmtF 20 n.natAbs ByteArray.empty
theorem fmtF_size : ∀ (k x : Nat) (acc : ByteArray), (fmtF k x acc).size ≤ k + acc.size
  | 0, x, acc => by simp [fmtF]
  | k + 1, x, acc => by
    unfold fmtF
    split
    · omega
    · have := fmtF_size k (x / 10) (dgB (x % 10) ++ acc)
      have h2 : (dgB (x % 10) ++ acc).size = 1 + acc.size := by rw [ByteArray.size_append]; rfl
      omega
theorem fmtI_size (n : Int) : (fmtI n).size ≤ 21 := by
  have h := fmtF_size 20 n.natAbs ByteArray.empty
  have e : ByteArray.empty.size = 0 := rfl
  unfold fmtI
  split
  · decide
  · split
    · rw [ByteArray.size_append]
      have : minusB.size = 1 := rfl
      omega
    · omega
theorem wrap8n {d : Nat} (h : d < 10) : IntKind.wrap .u8 (48 + (d : Int)) = ((UInt8.ofNat (48 + d)).toNat : Int) := by
  have h1 : IntKind.wrap .u8 (48 + (d : Int)) = (48 + (d : Int)) % 256 := by unfold IntKind.wrap; simp [IntKind.signed, IntKind.bits]
  rw [h1, UInt8.toNat_ofNat']
  omega
theorem dg_eq (d : Nat) : (⟨(bytesOf (shcLL [[AV.v (Value.int .u8 ((UInt8.ofNat (48 + d)).toNat : Int))]])).toArray⟩ : ByteArray) = dgB d := by
  have h : UInt8.ofNat (((UInt8.ofNat (48 + d)).toNat : Int)).toNat = UInt8.ofNat (48 + d) := by rw [Int.toNat_natCast, UInt8.ofNat_toNat]
  show (⟨([UInt8.ofNat (((UInt8.ofNat (48 + d)).toNat : Int)).toNat]).toArray⟩ : ByteArray) = dgB d
  rw [h]; rfl
theorem el1 (n : Int) : ∀ el ∈ shcLL [[AV.v (Value.int .u8 n)]], ∃ k, el = [AV.v (Value.int .u8 k)] := by
  intro el h
  simp only [shcLL, shcL, Vs.shc, List.mem_singleton] at h
  exact ⟨n, h⟩
theorem str_room {a b : ByteArray} (ha : a.size ≤ 100) (hb : b.size ≤ 100) : ((a.size + b.size : Nat) : Int) ≤ IntKind.i64.max := by
  have : IntKind.i64.max = 9223372036854775807 := rfl
  omega
theorem ba_app (a b : List UInt8) : (⟨(a ++ b).toArray⟩ : ByteArray) = ⟨a.toArray⟩ ++ ⟨b.toArray⟩ := by
  apply ByteArray.ext
  rw [ByteArray.data_append]
  simp
theorem fmtF_dec : ∀ (k x : Nat) (acc : ByteArray), 0 < x → x < 10 ^ k → fmtF k x acc = ⟨(Lib.decDigits x).toArray⟩ ++ acc
  | 0, x, acc, h, h2 => by omega
  | k + 1, x, acc, h, h2 => by
    rw [fmtF, if_neg (by omega)]
    by_cases h3 : x < 10
    · have e : fmtF k (x / 10) (dgB (x % 10) ++ acc) = dgB (x % 10) ++ acc := by
        rw [show x / 10 = 0 by omega]; cases k <;> simp [fmtF]
      rw [e, Lib.decDigits_one h3, Nat.mod_eq_of_lt h3]; rfl
    · rw [fmtF_dec k (x / 10) _ (by omega) (by rw [Nat.div_lt_iff_lt_mul (by omega)]; rw [Nat.pow_succ] at h2; exact h2)]
      conv => rhs; rw [Lib.decDigits, dif_neg h3, ba_app]
      rw [ByteArray.append_assoc]; rfl
theorem fmtI_itoa (n : Int) (h : -9223372036854775808 ≤ n ∧ n ≤ 9223372036854775807) : (⟨(Lib.itoa n).toArray⟩ : ByteArray) = fmtI n := by
  unfold Lib.itoa fmtI
  by_cases h0 : n = 0
  · subst h0
    rw [if_neg (by omega), if_pos rfl, show (0 : Int).toNat = 0 from rfl, Lib.decDigits_one (by omega)]; rfl
  · rw [if_neg h0]
    by_cases h1 : n < 0
    · rw [if_pos h1, if_pos h1, fmtF_dec 20 n.natAbs _ (by omega) (by omega), ByteArray.append_empty, ← List.singleton_append, ba_app]; rfl
    · rw [if_neg h1, if_neg h1, fmtF_dec 20 n.natAbs _ (by omega) (by omega), ByteArray.append_empty, show n.natAbs = n.toNat by omega]
theorem dec_fmt (k : Nat) (hk : k < 8) : (⟨(Lib.decDigits k).toArray⟩ : ByteArray) = fmtI k := by
  rw [← fmtI_itoa (k : Int) (by omega)]
  unfold Lib.itoa
  rw [if_neg (by omega), Int.toNat_natCast]
/-! Names of segments -/
def segB : ByteArray := ⟨#[115]⟩
def segT (i : Int) : ByteArray := segB ++ fmtI i
theorem segT_size (i : Int) : (segT i).size ≤ 22 := by
  have := fmtI_size i
  have e : segB.size = 1 := rfl
  unfold segT; rw [ByteArray.size_append]; omega
def segO (n : Name) (i : Int) : Bool := inR i 0 7 && vName ⟨n.parts ++ [segT i]⟩
def segN (n : Name) (i : Int) : Name := if segO n i then ⟨n.parts ++ [segT i]⟩ else ⟨[]⟩
theorem segN_size {n : Name} {i : Int} (h : strsSize n.parts ≤ 1048576) : Name.size (segN n i) ≤ 1048576000 := by
  have h1 := strs_snoc n.parts (segT i)
  have h2 := segT_size i
  unfold segN
  split
  · show strsSize (n.parts ++ [segT i]) ≤ _; omega
  · show strsSize [] ≤ _; simp [strsSize, sumN]
theorem nb_nil (b : Bool) : WkR (.tup [(true, 1), (false, 1)], [AV.sl true .isnil 0 [], cB b]) (NB ⟨[]⟩ b) := WkR.of (.nils (.refl _))
/-! Grants, what is sealed -/
def nsec (k : Int) (l : List ByteArray) : Int := l.foldl dsec k
theorem nsec_snoc (k : Int) (d : List ByteArray) (x : ByteArray) : nsec k (d ++ [x]) = dsec (nsec k d) x := by simp [nsec]
def mkGran (k : Int) (n : Name) : Gran := ⟨n, nsec k n.parts⟩
theorem wrap8z (z : Int) : IntKind.wrap .u8 z = ((UInt8.ofNat (z % 256).toNat).toNat : Int) := by
  have h : IntKind.wrap .u8 z = z % 256 := by
    unfold IntKind.wrap
    simp [IntKind.signed, IntKind.bits]
  rw [h, UInt8.toNat_ofNat']
  omega
theorem wrap8s {z : Int} (h : 0 ≤ z ∧ z < 256) : IntKind.wrap .u8 z = z := by
  unfold IntKind.wrap
  simp [IntKind.signed, IntKind.bits]
  omega
def kst (k : Int) (i : Nat) : Int := mac k [(i : Int)] % 256
theorem kst_b (k : Int) (i : Nat) : 0 ≤ kst k i ∧ kst k i < 256 := by unfold kst; omega
def encB (k : Int) (i : Nat) (x : UInt8) : UInt8 := UInt8.ofNat (((x.toNat : Int) + kst k i) % 256).toNat
def decB (k : Int) (i : Nat) (x : UInt8) : UInt8 := UInt8.ofNat (((x.toNat : Int) - kst k i) % 256).toNat
def encL (k : Int) (l : List UInt8) : List UInt8 := l.mapIdx (encB k)
def decL (k : Int) (l : List UInt8) : List UInt8 := l.mapIdx (decB k)
theorem encL_snoc (k : Int) (d : List UInt8) (x : UInt8) : encL k (d ++ [x]) = encL k d ++ [encB k d.length x] := by simp [encL, List.mapIdx_append]
theorem decL_snoc (k : Int) (d : List UInt8) (x : UInt8) : decL k (d ++ [x]) = decL k d ++ [decB k d.length x] := by simp [decL, List.mapIdx_append]
@[simp] theorem encL_len (k : Int) (d : List UInt8) : (encL k d).length = d.length := by simp [encL]
@[simp] theorem decL_len (k : Int) (d : List UInt8) : (decL k d).length = d.length := by simp [decL]
theorem dec_sub (x m : Int) : (x - m % 256) % 256 = (x - m) % 256 := by omega
def sealC (k : Int) (n : Name) (b : List UInt8) : List UInt8 := evi (mac (nsec k n.parts) (b2i b)) ++ encL (nsec k n.parts) b
/-! Which grant -/
def covs (n : Name) (g : Gran) : Bool := hasPre n g.name
theorem gr_len {l : List Gran} {g : Gran} {z : Nat} (hz : l.length + sumN Gran.size l ≤ z) (h : g ∈ l) : g.name.parts.length ≤ z := by
  have := sumN_mem Gran.size h
  have h2 : Gran.size g = strsSize g.name.parts := rfl
  unfold strsSize at h2
  omega
def gsec (l : List Gran) (n : Name) : Int := match l.find? (covs n) with
  | none => 0
  | some g => nsec g.secret (n.parts.drop g.name.parts.length)
theorem find_splitN {α : Type} {p : α → Bool} : ∀ (l : List α), (l.any p = false ∧ l.find? p = none) ∨ ∃ d x r, l = d ++ x :: r ∧ d.any p = false ∧ p x = true ∧ l.find? p = some x
  | [] => .inl ⟨rfl, rfl⟩
  | x :: l => by
    cases h : p x with
    | true => exact .inr ⟨[], x, l, rfl, rfl, h, by simp [h]⟩
    | false =>
      rcases find_splitN (p := p) l with ⟨h1, h2⟩ | ⟨d, y, r, rfl, h2, h3, h4⟩
      · exact .inl ⟨by simp [h, h1], by simp [h, h2]⟩
      · exact .inr ⟨x :: d, y, r, rfl, by simp [h, h2], h3, by simp [h, h4]⟩
theorem covs_le {n : Name} {g : Gran} (h : covs n g = true) : g.name.parts.length ≤ n.parts.length := by
  simp [covs, hasPre] at h; exact h.1
theorem strs_drop {l : List ByteArray} {k : Nat} : strsSize (l.drop k) ≤ strsSize l := by
  have h : strsSize (l.take k ++ l.drop k) = strsSize l := by rw [List.take_append_drop]
  unfold strsSize at *
  rw [sumN_append] at h
  simp at *
  omega
structure Data where
  name : Name
  content : List UInt8
  keyName : Name
  fresh : Int
  sig : Int
  deriving DecidableEq
abbrev Data.c (o : Bool) (p : Data) : List AV := [cSs o p.name.parts, cYs o p.content, cSs o p.keyName.parts, cI p.fresh, cI p.sig]
@[simp] theorem Data.shc (p : Data) : shcL (Data.c true p) = Data.c false p := by simp [Data.c, shcL, Vs.shc, shcLL_ints, shcLL_byts, shcLL_strs]
@[simp] theorem Data.shcs (l : List Data) : shcLL (l.map (Data.c true)) = l.map (Data.c false) := shcLL_map Data.shc l
@[simp] theorem Data.down (p : Data) : dOwnL (Data.c true p) := by simp [Data.c, dOwnL, dOwn]
@[simp] theorem Data.downs (l : List Data) : dOwnLL (l.map (Data.c true)) := dOwnLL_of Data.down l
theorem Data.eq_iff {p q : Data} : p = q ↔ p.name = q.name ∧ p.content = q.content ∧ p.keyName = q.keyName ∧ p.fresh = q.fresh ∧ p.sig = q.sig := by cases p; cases q; simp
def Data.size (p : Data) : Nat := Name.size p.name + p.content.length + Name.size p.keyName
def Data.fits (p : Data) : Prop := Name.fits p.name ∧ p.content.length ≤ 9223372036854775807 ∧ Name.fits p.keyName
def Data.rng (p : Data) : Prop := (-9223372036854775808 ≤ p.fresh ∧ p.fresh ≤ 9223372036854775807) ∧ (-9223372036854775808 ≤ p.sig ∧ p.sig ≤ 9223372036854775807)
def Data.mkd (p : Data) (k : Int) : Data := ⟨⟨markG mkS one1 p.name.parts (k)⟩, markG mkY one1 p.content (k + (p.name.parts.length : Nat)), ⟨markG mkS one1 p.keyName.parts (k + (p.name.parts.length : Nat) + (p.content.length : Nat))⟩, k + (p.name.parts.length : Nat) + (p.content.length : Nat) + (p.keyName.parts.length : Nat), k + (p.name.parts.length : Nat) + (p.content.length : Nat) + (p.keyName.parts.length : Nat) + 1⟩
def Data.cnt (p : Data) : Nat := p.name.parts.length + p.content.length + p.keyName.parts.length + 1 + 1
def Data.mkv (p : Data) (k : Int) : Data := ⟨⟨markG mkS one1 p.name.parts (k)⟩, markG mkY one1 p.content (k + (p.name.parts.length : Nat)), ⟨markG mkS one1 p.keyName.parts (k + (p.name.parts.length : Nat) + (p.content.length : Nat))⟩, p.fresh, p.sig⟩
def Data.cntv (p : Data) : Nat := p.name.parts.length + p.content.length + p.keyName.parts.length
theorem Data.cnt_le (p : Data) : Data.cnt p ≤ 6 * (Data.size p + 1) := by
  simp only [Data.cnt, Data.size, strsSize, Name.size]; omega
theorem Data.cntv_le (p : Data) : Data.cntv p ≤ 6 * (Data.size p + 1) := by
  simp only [Data.cntv, Data.size, strsSize, Name.size]; omega
theorem Data.cnts_le (l : List Data) : sumN Data.cnt l ≤ 6 * (l.length + sumN Data.size l) := by
  induction l with
  | nil => simp [sumN]
  | cons x l ih => have := Data.cnt_le x; simp only [sumN, List.length_cons]; omega
structure TEnt where
  name : Name
  value : Int
  deriving DecidableEq
abbrev TEnt.c (o : Bool) (p : TEnt) : List AV := [cSs o p.name.parts, cI p.value]
@[simp] theorem TEnt.shc (p : TEnt) : shcL (TEnt.c true p) = TEnt.c false p := by simp [TEnt.c, shcL, Vs.shc, shcLL_ints, shcLL_byts, shcLL_strs]
@[simp] theorem TEnt.shcs (l : List TEnt) : shcLL (l.map (TEnt.c true)) = l.map (TEnt.c false) := shcLL_map TEnt.shc l
@[simp] theorem TEnt.down (p : TEnt) : dOwnL (TEnt.c true p) := by simp [TEnt.c, dOwnL, dOwn]
@[simp] theorem TEnt.downs (l : List TEnt) : dOwnLL (l.map (TEnt.c true)) := dOwnLL_of TEnt.down l
theorem TEnt.eq_iff {p q : TEnt} : p = q ↔ p.name = q.name ∧ p.value = q.value := by cases p; cases q; simp
def TEnt.size (p : TEnt) : Nat := Name.size p.name
def TEnt.fits (p : TEnt) : Prop := Name.fits p.name
def TEnt.rng (p : TEnt) : Prop := (-9223372036854775808 ≤ p.value ∧ p.value ≤ 9223372036854775807)
def TEnt.mkd (p : TEnt) (k : Int) : TEnt := ⟨⟨markG mkS one1 p.name.parts (k)⟩, k + (p.name.parts.length : Nat)⟩
def TEnt.cnt (p : TEnt) : Nat := p.name.parts.length + 1
def TEnt.mkv (p : TEnt) (k : Int) : TEnt := ⟨⟨markG mkS one1 p.name.parts (k)⟩, p.value⟩
def TEnt.cntv (p : TEnt) : Nat := p.name.parts.length
theorem TEnt.cnt_le (p : TEnt) : TEnt.cnt p ≤ 5 * (TEnt.size p + 1) := by
  simp only [TEnt.cnt, TEnt.size, strsSize, Name.size]; omega
theorem TEnt.cntv_le (p : TEnt) : TEnt.cntv p ≤ 5 * (TEnt.size p + 1) := by
  simp only [TEnt.cntv, TEnt.size, strsSize, Name.size]; omega
theorem TEnt.cnts_le (l : List TEnt) : sumN TEnt.cnt l ≤ 5 * (l.length + sumN TEnt.size l) := by
  induction l with
  | nil => simp [sumN]
  | cons x l ih => have := TEnt.cnt_le x; simp only [sumN, List.length_cons]; omega
structure Rout where
  pref : Name
  face : Int
  cost : Int
  deriving DecidableEq
abbrev Rout.c (o : Bool) (p : Rout) : List AV := [cSs o p.pref.parts, cI p.face, cI p.cost]
@[simp] theorem Rout.shc (p : Rout) : shcL (Rout.c true p) = Rout.c false p := by simp [Rout.c, shcL, Vs.shc, shcLL_ints, shcLL_byts, shcLL_strs]
@[simp] theorem Rout.shcs (l : List Rout) : shcLL (l.map (Rout.c true)) = l.map (Rout.c false) := shcLL_map Rout.shc l
@[simp] theorem Rout.down (p : Rout) : dOwnL (Rout.c true p) := by simp [Rout.c, dOwnL, dOwn]
@[simp] theorem Rout.downs (l : List Rout) : dOwnLL (l.map (Rout.c true)) := dOwnLL_of Rout.down l
theorem Rout.eq_iff {p q : Rout} : p = q ↔ p.pref = q.pref ∧ p.face = q.face ∧ p.cost = q.cost := by cases p; cases q; simp
def Rout.size (p : Rout) : Nat := Name.size p.pref
def Rout.fits (p : Rout) : Prop := Name.fits p.pref
def Rout.rng (p : Rout) : Prop := (-9223372036854775808 ≤ p.face ∧ p.face ≤ 9223372036854775807) ∧ (-9223372036854775808 ≤ p.cost ∧ p.cost ≤ 9223372036854775807)
def Rout.mkd (p : Rout) (k : Int) : Rout := ⟨⟨markG mkS one1 p.pref.parts (k)⟩, k + (p.pref.parts.length : Nat), k + (p.pref.parts.length : Nat) + 1⟩
def Rout.cnt (p : Rout) : Nat := p.pref.parts.length + 1 + 1
def Rout.mkv (p : Rout) (k : Int) : Rout := ⟨⟨markG mkS one1 p.pref.parts (k)⟩, p.face, p.cost⟩
def Rout.cntv (p : Rout) : Nat := p.pref.parts.length
theorem Rout.cnt_le (p : Rout) : Rout.cnt p ≤ 6 * (Rout.size p + 1) := by
  simp only [Rout.cnt, Rout.size, strsSize, Name.size]; omega
theorem Rout.cntv_le (p : Rout) : Rout.cntv p ≤ 6 * (Rout.size p + 1) := by
  simp only [Rout.cntv, Rout.size, strsSize, Name.size]; omega
theorem Rout.cnts_le (l : List Rout) : sumN Rout.cnt l ≤ 6 * (l.length + sumN Rout.size l) := by
  induction l with
  | nil => simp [sumN]
  | cons x l ih => have := Rout.cnt_le x; simp only [sumN, List.length_cons]; omega
structure Keyy where
  name : Name
  secret : Int
  deriving DecidableEq
abbrev Keyy.c (o : Bool) (p : Keyy) : List AV := [cSs o p.name.parts, cI p.secret]
@[simp] theorem Keyy.shc (p : Keyy) : shcL (Keyy.c true p) = Keyy.c false p := by simp [Keyy.c, shcL, Vs.shc, shcLL_ints, shcLL_byts, shcLL_strs]
@[simp] theorem Keyy.shcs (l : List Keyy) : shcLL (l.map (Keyy.c true)) = l.map (Keyy.c false) := shcLL_map Keyy.shc l
@[simp] theorem Keyy.down (p : Keyy) : dOwnL (Keyy.c true p) := by simp [Keyy.c, dOwnL, dOwn]
@[simp] theorem Keyy.downs (l : List Keyy) : dOwnLL (l.map (Keyy.c true)) := dOwnLL_of Keyy.down l
theorem Keyy.eq_iff {p q : Keyy} : p = q ↔ p.name = q.name ∧ p.secret = q.secret := by cases p; cases q; simp
def Keyy.size (p : Keyy) : Nat := Name.size p.name
def Keyy.fits (p : Keyy) : Prop := Name.fits p.name
def Keyy.rng (p : Keyy) : Prop := (-9223372036854775808 ≤ p.secret ∧ p.secret ≤ 9223372036854775807)
def Keyy.mkd (p : Keyy) (k : Int) : Keyy := ⟨⟨markG mkS one1 p.name.parts (k)⟩, k + (p.name.parts.length : Nat)⟩
def Keyy.cnt (p : Keyy) : Nat := p.name.parts.length + 1
def Keyy.mkv (p : Keyy) (k : Int) : Keyy := ⟨⟨markG mkS one1 p.name.parts (k)⟩, p.secret⟩
def Keyy.cntv (p : Keyy) : Nat := p.name.parts.length
theorem Keyy.cnt_le (p : Keyy) : Keyy.cnt p ≤ 5 * (Keyy.size p + 1) := by
  simp only [Keyy.cnt, Keyy.size, strsSize, Name.size]; omega
theorem Keyy.cntv_le (p : Keyy) : Keyy.cntv p ≤ 5 * (Keyy.size p + 1) := by
  simp only [Keyy.cntv, Keyy.size, strsSize, Name.size]; omega
theorem Keyy.cnts_le (l : List Keyy) : sumN Keyy.cnt l ≤ 5 * (l.length + sumN Keyy.size l) := by
  induction l with
  | nil => simp [sumN]
  | cons x l ih => have := Keyy.cnt_le x; simp only [sumN, List.length_cons]; omega
/-! Signing -/
def secOf (l : List Keyy) (n : Name) : Int := match l.find? (fun k => decide (k.name = n)) with
  | none => 0
  | some k => k.secret
theorem ky_len {l : List Keyy} {g : Keyy} {z : Nat} (hz : l.length + sumN Keyy.size l ≤ z) (h : g ∈ l) : g.name.parts.length ≤ z := by
  have := sumN_mem Keyy.size h
  have h2 : Keyy.size g = strsSize g.name.parts := rfl
  unfold strsSize at h2
  omega
def vData (x : Data) : Bool := vName x.name && decide (0 < x.name.parts.length) && decide (x.content.length ≤ 60) && vName x.keyName && inR x.fresh 0 100000 && inR x.sig 0 2147483646
def Data.sz (x : Data) : Prop := strsSize x.name.parts ≤ 1048576 ∧ x.content.length ≤ 1048576 ∧ strsSize x.keyName.parts ≤ 1048576
theorem is208 : FI 208 Tryz.f208 := ⟨⟨Tryz.f208, Tryz.func208, rfl, rfl, rfl, rfl⟩, rfl⟩
set_option maxRecDepth 20000 in
set_option maxHeartbeats 16000000 in
theorem s_AppendBytes (b s : List UInt8) (hb : b.length ≤ 1048000) (hs : s.length ≤ 1048576) : FO 208 [Ys false b, Ys false s] [Ys false b, Ys false s] (Ys true (b ++ (evi s.length ++ s))) := by
  refine fok envOk mixed is208 ⟨rfl, rfl, ?_⟩
  have := evi_len s.length
  (repeat' ((conv => whnf); first | refine stp ?_ | refine Cl.mk (s_AppendVarint b s.length (by omega)) ?_ | refine Rq.mk (by simp; omega) ?_ | refine Cl.pre (by simp only [shcLL_ints, shcLL_byts, shcLL_strs, Data.shcs, Fetc.shcs, Gran.shcs, Keyy.shcs, Mani.shcs, Name.shcs, Read.shcs, Rout.shcs, Segm.shcs, TEnt.shcs]; rfl) ?_))
  refine Vs.Fin.mk (WkR.of (.sl1 ?_ .nil)) (.refl _)
  simp
theorem is199 : FI 199 Tryz.f199 := ⟨⟨Tryz.f199, Tryz.func199, rfl, rfl, rfl, rfl⟩, rfl⟩
set_option maxRecDepth 20000 in
set_option maxHeartbeats 16000000 in
theorem i_AppendBytes (b s : List UInt8) (hb : b.length ≤ 1048000) (hs : s.length ≤ 1048576) : FO 199 [Ys false b, Ys false s] [Ys false b, Ys false s] (Ys true (b ++ (evi s.length ++ s))) := by
  refine fok envOk mixed is199 ⟨rfl, rfl, ?_⟩
  have := evi_len s.length
  (repeat' ((conv => whnf); first | refine stp ?_ | refine Cl.mk (i_AppendVarint b s.length (by omega)) ?_ | refine Rq.mk (by simp; omega) ?_ | refine Cl.pre (by simp only [shcLL_ints, shcLL_byts, shcLL_strs, Data.shcs, Fetc.shcs, Gran.shcs, Keyy.shcs, Mani.shcs, Name.shcs, Read.shcs, Rout.shcs, Segm.shcs, TEnt.shcs]; rfl) ?_))
  refine Vs.Fin.mk (WkR.of (.sl1 ?_ .nil)) (.refl _)
  simp
def apSs (l : List ByteArray) : List UInt8 := l.flatMap fun s => evi s.size ++ s.data.toList
def apNm (b : List UInt8) (n : Name) : List UInt8 := if vName n then b ++ evi n.parts.length ++ apSs n.parts else b
theorem vName_b {n : Name} (h : vName n = true) : n.parts.length ≤ 6 ∧ ∀ s ∈ n.parts, s.size ≤ 8 := by
  simp [vName] at h
  refine ⟨h.2, fun s hs => ?_⟩
  have := h.1 s hs
  simp [vPart, inR_t] at this
  omega
theorem apSs_len {l : List ByteArray} (h : ∀ s ∈ l, s.size ≤ 8) : (apSs l).length ≤ 14 * l.length := by
  induction l with
  | nil => simp [apSs]
  | cons x l ih =>
    have h1 := evi_len x.size
    have h2 := h x (by simp)
    have h3 := ih (fun s hs => h s (by simp [hs]))
    have h4 := @dsz x
    simp only [apSs, List.flatMap_cons, List.length_append, List.length_cons] at h3 ⊢
    omega
theorem apNm_len (n : Name) : (apNm [] n).length ≤ 100 := by
  unfold apNm
  split
  · rename_i h
    have h2 := vName_b h
    have h3 := apSs_len h2.2
    have h4 := evi_len n.parts.length
    simp only [List.length_append, List.length_nil]
    omega
  · simp
theorem apSs_nil : apSs [] = [] := rfl
theorem apSs_snoc (l : List ByteArray) (x : ByteArray) : apSs (l ++ [x]) = apSs l ++ (evi x.size ++ x.data.toList) := by simp [apSs]
theorem dsI (s : ByteArray) : ((s.data.toList.length : Nat) : Int) = (s.size : Int) := by rw [dsz]
theorem is140 : FI 140 Tryz.f140 := ⟨⟨Tryz.f140, Tryz.func140, rfl, rfl, rfl, rfl⟩, rfl⟩
set_option maxRecDepth 20000 in
set_option maxHeartbeats 16000000 in
theorem s_AppendName (n : Name) (hn : strsSize n.parts ≤ 1048576) : FO 140 [Ys false [], A (Name.c false n)] [Ys false [], A (Name.c false n)] (Ys true (apNm [] n)) := by
  refine fok envOk mixed is140 ⟨rfl, rfl, ?_⟩
  have hnl := strs_len hn
  (repeat' ((conv => whnf); first | refine stp ?_ | refine Cl.mk (s_ValidName n (by omega)) ?_ | refine Cl.pre (by simp only [shcLL_ints, shcLL_byts, shcLL_strs, Data.shcs, Fetc.shcs, Gran.shcs, Keyy.shcs, Mani.shcs, Name.shcs, Read.shcs, Rout.shcs, Segm.shcs, TEnt.shcs]; rfl) ?_))
  refine Br.mk (fun h => ?_) (fun h => ?_)
  · (repeat' ((conv => whnf); first | refine stp ?_ | refine Br.mk (fun _ => ?_) (fun _ => ?_) ))
    refine Vs.Fin.mk (WkR.of (.sl1 ?_ .nil)) (.refl _)
    simp_all [apNm]
  have hv : vName n = true := by simpa using h
  have hb := vName_b hv
  have he := evi_len n.parts.length
  (repeat' ((conv => whnf); first | refine stp ?_ | refine Cl.mk (s_AppendVarint [] n.parts.length (by simp)) ?_ | refine Cl.pre (by simp only [shcLL_ints, shcLL_byts, shcLL_strs, Data.shcs, Fetc.shcs, Gran.shcs, Keyy.shcs, Mani.shcs, Name.shcs, Read.shcs, Rout.shcs, Segm.shcs, TEnt.shcs]; rfl) ?_))
  refine Lp.mk [.bx 3, .sl 3, .sl 5, .sl 6] (fun m σ => ∃ d r, n.parts = d ++ r ∧ m = r.length ∧ σ = [Bx 3 ((Name.c false n)), Pt 3, Sa 5 (Ys true (evi n.parts.length ++ apSs d)), Sa 6 (I d.length)]) (n.parts.length) _ (WkS.weak _ _) ⟨[], n.parts, rfl, rfl, (by first | rfl | (simp only [zlen, zsum, Nat.zero_mul, Int.add_zero, Int.sub_zero, List.nil_append, markG, List.append_nil,apSs_nil]; rfl))⟩ ?_
  rintro m τ ⟨d, r, hd, rfl, rfl⟩
  have hy : n.parts.length = d.length + r.length := by rw [hd]; simp
  have hp := apSs_len (l := d) (fun s hs => hb.2 s (by simp [hd, hs]))
  refine Nm.mk lenC ?_
  cases r with
  | nil =>
    refine Br.neg (by simp at *; omega) ?_
    (repeat' ((conv => whnf); first | refine stp ?_ | refine Br.mk (fun _ => ?_) (fun _ => ?_) ))
    refine Vs.Fin.mk (WkR.eq ?_) (.refl _)
    simp only [List.append_nil] at hd
    rw [apNm, if_pos hv, hd]; rfl
  | cons x r =>
    have h8 := hb.2 x (by simp [hd])
    have h9 := @dsz x
    simp at hy
    refine Br.pos (by simp; omega) ?_
    (repeat' ((conv => whnf); first | refine stp ?_ | refine El.mk (getH hd rfl) ?_ | refine Cl.mk (s_AppendBytes (evi n.parts.length ++ apSs d) x.data.toList (by simp only [List.length_append]; omega) (by omega)) ?_ | refine Cl.pre (by simp only [shcLL_ints, shcLL_byts, shcLL_strs, Data.shcs, Fetc.shcs, Gran.shcs, Keyy.shcs, Mani.shcs, Name.shcs, Read.shcs, Rout.shcs, Segm.shcs, TEnt.shcs]; rfl) ?_))
    refine Nx.intro r.length (by simp) _ (WkS.weak _ _) ⟨d ++ [x], r, by simp [hd], rfl, ?_⟩
    rw [len1, apSs_snoc, ← dsI, List.append_assoc]; rfl
theorem is122 : FI 122 Tryz.f122 := ⟨⟨Tryz.f122, Tryz.func122, rfl, rfl, rfl, rfl⟩, rfl⟩
set_option maxRecDepth 20000 in
set_option maxHeartbeats 16000000 in
theorem i_AppendName (n : Name) (hn : strsSize n.parts ≤ 1048576) : FO 122 [Ys false [], A (Name.c false n)] [Ys false [], A (Name.c false n)] (Ys true (apNm [] n)) := by
  refine fok envOk mixed is122 ⟨rfl, rfl, ?_⟩
  have hnl := strs_len hn
  (repeat' ((conv => whnf); first | refine stp ?_ | refine Cl.mk (i_ValidName n (by omega)) ?_ | refine Cl.pre (by simp only [shcLL_ints, shcLL_byts, shcLL_strs, Data.shcs, Fetc.shcs, Gran.shcs, Keyy.shcs, Mani.shcs, Name.shcs, Read.shcs, Rout.shcs, Segm.shcs, TEnt.shcs]; rfl) ?_))
  refine Br.mk (fun h => ?_) (fun h => ?_)
  · (repeat' ((conv => whnf); first | refine stp ?_ | refine Br.mk (fun _ => ?_) (fun _ => ?_) | refine Cl.mk (Clone_byte [] (by simp)) ?_ | refine Cl.pre (by simp only [shcLL_ints, shcLL_byts, shcLL_strs, Data.shcs, Fetc.shcs, Gran.shcs, Keyy.shcs, Mani.shcs, Name.shcs, Read.shcs, Rout.shcs, Segm.shcs, TEnt.shcs]; rfl) ?_))
    refine Vs.Fin.mk (WkR.eq ?_) (.refl _)
    simp_all [apNm]
  have hv : vName n = true := by simpa using h
  have hb := vName_b hv
  have he := evi_len n.parts.length
  (repeat' ((conv => whnf); first | refine stp ?_ | refine Cl.mk (i_AppendVarint [] n.parts.length (by simp)) ?_ | refine Cl.pre (by simp only [shcLL_ints, shcLL_byts, shcLL_strs, Data.shcs, Fetc.shcs, Gran.shcs, Keyy.shcs, Mani.shcs, Name.shcs, Read.shcs, Rout.shcs, Segm.shcs, TEnt.shcs]; rfl) ?_))
  refine Lp.mk [.sl 5, .sl 19, .sl 20, .sl 21] (fun m σ => ∃ d r, n.parts = d ++ r ∧ m = r.length ∧ σ = [Sa 5 (Ys true (evi n.parts.length ++ apSs d)), Sa 19 (O (sl false 1 (strs n.parts))), Sa 20 (I n.parts.length), Sa 21 (I d.length)]) (n.parts.length) _ (WkS.weak _ _) ⟨[], n.parts, rfl, rfl, (by first | rfl | (simp only [zlen, zsum, Nat.zero_mul, Int.add_zero, Int.sub_zero, List.nil_append, markG, List.append_nil,apSs_nil]; rfl))⟩ ?_
  rintro m τ ⟨d, r, hd, rfl, rfl⟩
  have hy : n.parts.length = d.length + r.length := by rw [hd]; simp
  have hp := apSs_len (l := d) (fun s hs => hb.2 s (by simp [hd, hs]))
  cases r with
  | nil =>
    refine Br.neg (by simp at *; omega) ?_
    (repeat' ((conv => whnf); first | refine stp ?_ | refine Br.mk (fun _ => ?_) (fun _ => ?_) ))
    refine Vs.Fin.mk (WkR.eq ?_) (.refl _)
    simp only [List.append_nil] at hd
    rw [apNm, if_pos hv, hd]; rfl
  | cons x r =>
    have h8 := hb.2 x (by simp [hd])
    have h9 := @dsz x
    simp at hy
    refine Br.pos (by simp; omega) ?_
    (repeat' ((conv => whnf); first | refine stp ?_ | refine El.mk (getH hd rfl) ?_ | refine Cl.mk (i_AppendBytes (evi n.parts.length ++ apSs d) x.data.toList (by simp only [List.length_append]; omega) (by omega)) ?_ | refine Cl.pre (by simp only [shcLL_ints, shcLL_byts, shcLL_strs, Data.shcs, Fetc.shcs, Gran.shcs, Keyy.shcs, Mani.shcs, Name.shcs, Read.shcs, Rout.shcs, Segm.shcs, TEnt.shcs]; rfl) ?_))
    refine Nx.intro r.length (by simp) _ (WkS.weak _ _) ⟨d ++ [x], r, by simp [hd], rfl, ?_⟩
    rw [len1, apSs_snoc, ← dsI, List.append_assoc]; rfl
/-! Keys: which are valid -/
def vKey (k : Keyy) : Bool := vName k.name && decide (0 < k.name.parts.length) && inR k.secret 1 2147483646
def clash (k o : Keyy) : Bool := decide (o.name = k.name) || decide (o.secret = k.secret)
def vKG : List Keyy → List Keyy → Bool
  | _, [] => true
  | d, k :: r => (vKey k && !d.any (clash k)) && vKG (d ++ [k]) r
def vKeys (l : List Keyy) : Bool := vKG [] l && decide (l.length ≤ 8)
theorem vKeys_no {l d r : List Keyy} {x : Keyy} (h : vKG [] l = vKG d (x :: r)) (hx : (vKey x && !d.any (clash x)) = false) : vKeys l = false := by
  simp only [vKeys, h, vKG, hx, Bool.false_and]
theorem vKG_mem : ∀ {r d : List Keyy}, vKG d r = true → ∀ k ∈ r, vKey k = true
  | [], _, _, k, hk => by cases hk
  | x :: r, d, h, k, hk => by
    simp only [vKG, Bool.and_eq_true] at h
    rcases List.mem_cons.1 hk with rfl | hk
    · exact h.1.1
    · exact vKG_mem h.2 k hk
theorem vKeys_mem {l : List Keyy} (h : vKeys l = true) {k : Keyy} (hk : k ∈ l) : vKey k = true := by
  simp only [vKeys, Bool.and_eq_true] at h
  exact vKG_mem h.1 k hk
theorem ky_all {l : List Keyy} {k : Keyy} {z : Nat} (hz : l.length + sumN Keyy.size l ≤ z) (h : k ∈ l) : strsSize k.name.parts ≤ z ∧ k.name.parts.length ≤ z := by
  have := sumN_mem Keyy.size h
  have h2 : Keyy.size k = strsSize k.name.parts := rfl
  have h3 : k.name.parts.length ≤ strsSize k.name.parts := by unfold strsSize; omega
  omega
theorem ky_pre {d r : List Keyy} {z : Nat} (h : (d ++ r).length + sumN Keyy.size (d ++ r) ≤ z) : d.length + sumN Keyy.size d ≤ z := by
  rw [sumN_append] at h; simp at h; omega
theorem takeK {α : Type} {c : α → List AV} {d r : List α} : (((d ++ r).map c).take ((d.length : Nat) : Int).toNat).drop (0 : Int).toNat = d.map c := by simp
theorem any_find {x : Keyy} {d : List Keyy} (h : d.any (fun o => decide (o.name = x.name)) = true) : d.any (clash x) = true := by
  rw [List.any_eq_true] at h ⊢
  obtain ⟨o, ho, h⟩ := h
  exact ⟨o, ho, by simp at h; simp [clash, h]⟩
theorem any_split {x : Keyy} {d : List Keyy} (h : d.any (fun o => decide (o.name = x.name)) = false) (h2 : d.any (fun o => decide (o.secret = x.secret)) = false) : d.any (clash x) = false := by
  rw [List.any_eq_false] at h h2 ⊢
  intro o ho
  have h3 := h o ho
  have h4 := h2 o ho
  simp at h3 h4
  simp [clash, h3, h4]
def sPort (x : Data) : List Int := b2i (apNm [] x.name) ++ b2i x.content ++ b2i (apNm [] x.keyName) ++ [x.fresh]
theorem sPort_len {x : Data} (h : x.content.length ≤ 1048576) : (sPort x).length ≤ 1048800 := by
  have h1 := apNm_len x.name
  have h2 := apNm_len x.keyName
  simp only [sPort, List.length_append, b2i_len, List.length_cons, List.length_nil]; omega
def sgn (k : Int) (x : Data) : Data := ⟨x.name, x.content, x.keyName, x.fresh, mac k (sPort x)⟩
def dZero : Data := ⟨⟨[]⟩, [], ⟨[]⟩, 0, 0⟩
def swk (l : List Keyy) (key n : Name) (b : List UInt8) (till : Int) : Data := sgn (secOf l key) ⟨n, b, key, till, 0⟩
def swkO (l : List Keyy) (key n : Name) (b : List UInt8) (till : Int) : Bool := !decide (secOf l key = 0) && vData (swk l key n b till)
abbrev DB (d : Data) (b : Bool) : Arg := (.tup [(true, 5), (false, 1)], Data.c true d ++ [cB b])
def swkR (l : List Keyy) (key n : Name) (b : List UInt8) (till : Int) : Data := if swkO l key n b till then swk l key n b till else dZero
theorem swk_sz {l : List Keyy} {key n : Name} {b : List UInt8} {till : Int} (h : strsSize key.parts ≤ 1048576) (hn : strsSize n.parts ≤ 1048576) (hb : b.length ≤ 1048576) : (swk l key n b till).sz := ⟨hn, hb, h⟩
theorem db_nil : WkR (.tup [(true, 5), (false, 1)], [AV.sl true .isnil 0 [], AV.sl true .isnil 0 [], AV.sl true .isnil 0 [], cI 0, cI 0, cB false]) (DB dZero false) := WkR.of (.nils (.nils (.nils (.refl _))))
/-! Publishing -/
theorem strs_small {l : List ByteArray} (h : ∀ s ∈ l, s.size ≤ 8) : strsSize l ≤ 9 * l.length := by
  induction l with
  | nil => simp [strsSize, sumN]
  | cons x l ih =>
    have h1 := h x (by simp)
    have h2 := ih (fun s hs => h s (by simp [hs]))
    simp only [strsSize, sumN, List.length_cons] at h2 ⊢
    omega
theorem vName_sz {n : Name} (h : vName n = true) : strsSize n.parts ≤ 54 := by
  have h1 := vName_b h
  have h2 := strs_small h1.2
  omega
theorem apZero_sz {n : Name} {s : ByteArray} : strsSize (apZero n s).parts ≤ 54 := by
  unfold apZero
  split
  · rename_i h; exact vName_sz h
  · exact Nat.zero_le _
theorem segN_sz {n : Name} {i : Int} : strsSize (segN n i).parts ≤ 54 := by
  unfold segN
  split
  · rename_i h
    simp only [segO, Bool.and_eq_true] at h
    exact vName_sz h.2
  · exact Nat.zero_le _
theorem segAt_len {b : List UInt8} {p : Mani} {i : Int} (h : b.length ≤ 1048576) : (segAt b p i).length ≤ 1048576 := by
  unfold segAt
  split
  · simp only [cut, List.length_take, List.length_drop]; omega
  · simp
def encM (p : Mani) : List UInt8 := if vMani p then encs (p.seg :: p.len :: p.dig) else []
def pubI (l : List Keyy) (key n : Name) (b : List UInt8) (p : Mani) (till : Int) (i : Nat) : Data := swkR l key (segN n i) (segAt b p i) till
def pubO (l : List Keyy) (key n : Name) (b : List UInt8) (p : Mani) (till : Int) (i : Nat) : Bool := segO n i && swkO l key (segN n i) (segAt b p i) till
def pubL (l : List Keyy) (key n : Name) (b : List UInt8) (p : Mani) (till : Int) (k : Nat) : List Data := swkR l key (apZero n plan) (encM p) till :: (List.range k).map (pubI l key n b p till)
theorem pubL_len (l : List Keyy) (key n : Name) (b : List UInt8) (p : Mani) (till : Int) (k : Nat) : (pubL l key n b p till k).length = k + 1 := by simp [pubL]
theorem pubL_succ (l : List Keyy) (key n : Name) (b : List UInt8) (p : Mani) (till : Int) (k : Nat) : pubL l key n b p till (k + 1) = pubL l key n b p till k ++ [pubI l key n b p till k] := by simp [pubL, List.range_succ]
def pub0 (l : List Keyy) (key n : Name) (p : Mani) (till : Int) : Bool := !decide (p.seg = 0) && vName ⟨n.parts ++ [plan]⟩ && swkO l key (apZero n plan) (encM p) till
def pubB (l : List Keyy) (key n : Name) (b : List UInt8) (p : Mani) (till : Int) : Bool := pub0 l key n p till && (List.range p.dig.length).all (pubO l key n b p till)
def pubR (l : List Keyy) (key n : Name) (b : List UInt8) (p : Mani) (till : Int) : List Data := if pubB l key n b p till then pubL l key n b p till p.dig.length else []
theorem pubR_no0 {l : List Keyy} {key n : Name} {b : List UInt8} {p : Mani} {till : Int} (h : pub0 l key n p till = false) : pubB l key n b p till = false ∧ pubR l key n b p till = [] := by simp [pubR, pubB, h]
theorem pubR_no {l : List Keyy} {key n : Name} {b : List UInt8} {p : Mani} {till : Int} {i : Nat} (hi : i < p.dig.length) (h : pubO l key n b p till i = false) : pubB l key n b p till = false ∧ pubR l key n b p till = [] := by
  have : pubB l key n b p till = false := by
    unfold pubB
    rw [Bool.and_eq_false_iff]; right
    rw [List.all_eq_false]
    exact ⟨i, by simpa using hi, by simp [h]⟩
  exact ⟨this, by simp [pubR, this]⟩
theorem pubR_yes {l : List Keyy} {key n : Name} {b : List UInt8} {p : Mani} {till : Int} (h : pub0 l key n p till = true) (h2 : ∀ i, i < p.dig.length → pubO l key n b p till i = true) : pubB l key n b p till = true ∧ pubR l key n b p till = pubL l key n b p till p.dig.length := by
  have : pubB l key n b p till = true := by
    unfold pubB
    rw [h, Bool.true_and, List.all_eq_true]
    intro i hi
    exact h2 i (by simpa using hi)
  exact ⟨this, by simp [pubR, this]⟩
abbrev LB (l : List Data) (b : Bool) : Arg := (.tup [(false, 1), (false, 1)], [sl true 5 (l.map (Data.c true)), cB b])
theorem swkR_sz (l : List Keyy) (key n : Name) (b : List UInt8) (till : Int) : Data.size (swkR l key n b till) ≤ 168 := by
  unfold swkR
  split
  · rename_i h
    simp only [swkO, vData, Bool.and_eq_true, decide_eq_true_eq] at h
    obtain ⟨_, ⟨⟨⟨⟨h1, _⟩, h3⟩, h4⟩, _⟩, _⟩ := h
    have h5 := vName_sz h1
    have h6 := vName_sz h4
    show strsSize (swk l key n b till).name.parts + (swk l key n b till).content.length + strsSize (swk l key n b till).keyName.parts ≤ 168
    omega
  · exact Nat.zero_le _
theorem sum168 {l : List Data} (h : ∀ x ∈ l, Data.size x ≤ 168) : sumN Data.size l ≤ 168 * l.length := by
  induction l with
  | nil => simp [sumN]
  | cons x l ih =>
    have h1 := h x (by simp)
    have h2 := ih (fun s hs => h s (by simp [hs]))
    simp only [sumN, List.length_cons]
    omega
theorem pubR_size (l : List Keyy) (key n : Name) (b : List UInt8) (size till : Int) (hb : b.length ≤ 1048576) : (pubR l key n b (mkMani b size) till).length + sumN Data.size (pubR l key n b (mkMani b size) till) ≤ 1048576000 := by
  have hdl : (mkMani b size).dig.length ≤ 1048576 := by have := mkMani_size (b := b) (z := size) hb; simpa [Mani.size] using this
  have h : ∀ x ∈ pubR l key n b (mkMani b size) till, Data.size x ≤ 168 := by
    intro x hx
    unfold pubR pubL at hx
    split at hx
    · rcases List.mem_cons.1 hx with rfl | hx
      · exact swkR_sz ..
      · obtain ⟨i, _, rfl⟩ := List.mem_map.1 hx
        exact swkR_sz ..
    · cases hx
  have h2 := sum168 h
  have h3 : (pubR l key n b (mkMani b size) till).length ≤ 1048577 := by
    unfold pubR
    split
    · rw [pubL_len]; omega
    · simp
  omega
theorem sh_resN {f : Nat} {args outs : List Arg} {s : Shape} {vs : List AV} (h : FO f args outs (s, vs)) : FO f args outs (s, shcL vs) := FOk.wk h (.refl _) (.refl _) ⟨rfl, .inr (WkL.refl _)⟩
theorem sh_Nm {f : Nat} {args outs : List Arg} {n : Name} (h : FO f args outs (A (Name.c true n))) : FO f args outs (A (Name.c false n)) := by
  have := sh_resN h
  rwa [Name.shc] at this
abbrev Ks (o : Bool) (l : List Keyy) : Arg := O (sl o 2 (l.map (Keyy.c false)))
abbrev KB (l : List Keyy) (b : Bool) : Arg := (.tup [(false, 1), (false, 1)], [sl true 2 (l.map (Keyy.c false)), cB b])
def addK (l : List Keyy) (k : Keyy) : List Keyy := if vKeys (l ++ [k]) then l ++ [k] else l
theorem addK_size (l : List Keyy) (k : Keyy) : (addK l k).length + sumN Keyy.size (addK l k) ≤ l.length + sumN Keyy.size l + 1 + Keyy.size k := by
  unfold addK
  split
  · rw [sumN_snoc]; simp; omega
  · omega
theorem shcLL_K (l : List Keyy) : shcLL (l.map (Keyy.c false)) = l.map (Keyy.c false) := shcLL_map (fun _ => rfl) l
def sKeyA : ByteArray := ⟨#[47, 107, 101, 121, 47, 97]⟩
def sKeyB : ByteArray := ⟨#[47, 107, 101, 121, 47, 98]⟩
def sZz : ByteArray := ⟨#[47, 122, 122]⟩
def rings4 : List ByteArray := [⟨#[47, 97, 47, 107, 101, 121]⟩, ⟨#[47, 98, 47, 107, 101, 121]⟩, ⟨#[47, 110, 101, 119, 115, 47, 107, 101, 121]⟩, ⟨#[47, 107, 101, 121, 47, 99]⟩]
theorem rings4_size : ∀ s ∈ rings4, s.size ≤ 9 := by decide
def ring0 : List Keyy := [⟨pN sKeyA, 100⟩, ⟨pN sKeyB, 101⟩]
theorem pN_key {s : ByteArray} {x : Int} : Keyy.size ⟨pN s, x⟩ ≤ 54 := pN_sz s
end Go.Proofs.YtigkmijoefibiaaGreat
