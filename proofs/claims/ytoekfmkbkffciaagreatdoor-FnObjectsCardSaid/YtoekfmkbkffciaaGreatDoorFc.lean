/- Contracts of functions of the program: no statement of the seat is proved here. Each under the conditions that stand in it. -/
import Derived.Test.YtoekfmkbkffciaaGreatDoorFa
set_option linter.all false
namespace Go.Proofs.YtoekfmkbkffciaaGreatDoor
open Go.Vs Go.Proofs
def sumN {α : Type} (f : α → Nat) : List α → Nat
  | [] => 0
  | x :: l => f x + sumN f l
theorem sumN_append {α : Type} (f : α → Nat) (l m : List α) : sumN f (l ++ m) = sumN f l + sumN f m := by
  induction l with
  | nil => simp [sumN]
  | cons x l ih => simp [sumN, ih]; omega
theorem sumN_snoc {α : Type} (f : α → Nat) (l : List α) (x : α) : sumN f (l ++ [x]) = sumN f l + f x := by
  rw [sumN_append]; rfl
theorem sumN_one {α : Type} (l : List α) : sumN (fun _ => 1) l = l.length := by
  induction l with
  | nil => rfl
  | cons x l ih => simp [sumN, ih]; omega
theorem sumN_mem {α : Type} (f : α → Nat) {l : List α} {x : α} (h : x ∈ l) : f x ≤ sumN f l := by
  induction l with
  | nil => simp at h
  | cons y l ih =>
    simp only [sumN]
    rcases List.mem_cons.1 h with rfl | h
    · omega
    · have := ih h; omega
theorem zlen {α : Type} : ((([] : List α).length : Nat) : Int) = 0 := rfl
theorem zsum {α : Type} {f : α → Nat} : ((sumN f [] : Nat) : Int) = 0 := rfl
/-- Each cell marked with the next number. -/
def markG {α : Type} (mk : α → Int → α) (cnt : α → Nat) : List α → Int → List α
  | [], _ => []
  | x :: l, k => mk x k :: markG mk cnt l (k + cnt x)
theorem markG_length {α : Type} (mk : α → Int → α) (cnt : α → Nat) (l : List α) (k : Int) : (markG mk cnt l k).length = l.length := by
  induction l generalizing k with
  | nil => rfl
  | cons x l ih => simp [markG, ih]
theorem markG_append {α : Type} (mk : α → Int → α) (cnt : α → Nat) (d r : List α) (k : Int) : markG mk cnt (d ++ r) k = markG mk cnt d k ++ markG mk cnt r (k + sumN cnt d) := by
  induction d generalizing k with
  | nil => simp [markG, sumN]
  | cons x d ih => simp [markG, sumN, ih]; congr 1; omega
theorem markG_snoc {α : Type} (mk : α → Int → α) (cnt : α → Nat) (d : List α) (x : α) (k : Int) : markG mk cnt (d ++ [x]) k = markG mk cnt d k ++ [mk x (k + sumN cnt d)] := by
  rw [markG_append]; rfl
def mkI (_ : Int) (k : Int) : Int := k
def mkY (_ : UInt8) (k : Int) : UInt8 := UInt8.ofNat (k % 256).toNat
theorem mkY_nat (x : UInt8) (k : Int) : ((mkY x k).toNat : Int) = IntKind.wrap .u8 k := by
  have h : IntKind.wrap .u8 k = k % 256 := by
    unfold IntKind.wrap
    simp [IntKind.signed, IntKind.bits]
  rw [h, mkY, UInt8.toNat_ofNat']
  omega
def one1 {α : Type} (_ : α) : Nat := 1
theorem sumN_one1 {α : Type} (l : List α) : sumN one1 l = l.length := sumN_one l
theorem setB {α : Type} {c : α → List AV} {a r : List α} {x : α} {i : Nat} {z : List AV} (hi : i = a.length) : ((a ++ x :: r).map c).set i z = a.map c ++ z :: r.map c := by
  subst hi; simp [List.set_append]
theorem getM {α : Type} {c : α → List AV} {l r : List α} {x : α} {mk : α → Int → α} {cnt : α → Nat} {k i : Int} (hi : i = (l.length : Nat)) : ((markG mk cnt (l ++ x :: r) k).map c)[i.toNat]? = some (c (mk x (k + sumN cnt l))) := by
  subst hi
  rw [markG_append]
  simp only [markG]
  exact getA (by simp [markG_length])
/-- The text of a number. -/
def mtext : Nat → ByteArray
  | 0 => ByteArray.empty
  | n + 1 => mtext ((n + 1) / 10) ++ ⟨#[UInt8.ofNat (48 + (n + 1) % 10)]⟩
def mtextS (k : Int) : ByteArray := if k ≤ 0 then ⟨#[109, 48]⟩ else ⟨#[109]⟩ ++ mtext k.toNat
def mkS (_ : ByteArray) (k : Int) : ByteArray := mtextS k
theorem mtext_step {n : Nat} (h : 0 < n) : mtext n = mtext (n / 10) ++ ⟨#[UInt8.ofNat (48 + n % 10)]⟩ := by
  cases n with
  | zero => omega
  | succ n => rw [mtext]
theorem mtext_d (m : Nat) : IntKind.wrap .u8 (48 + (m : Int) % 10) = ((48 + m % 10 : Nat) : Int) := by
  unfold IntKind.wrap
  simp [IntKind.signed, IntKind.bits]
  omega
def strsSize (l : List ByteArray) : Nat := l.length + sumN ByteArray.size l
def strsFit (l : List ByteArray) : Prop := l.length ≤ 9223372036854775807 ∧ ∀ s ∈ l, s.size ≤ 9223372036854775807
theorem mtext_one (m : Nat) : (⟨(bytesOf [[.v (.int .u8 ((48 + m % 10 : Nat) : Int))]]).toArray⟩ : ByteArray) = ⟨#[UInt8.ofNat (48 + m % 10)]⟩ := rfl
theorem i64max : IntKind.i64.max = 9223372036854775807 := by decide
theorem szA_lt {n : Nat} {x : Int} (h : x < n) : szA n x = -1 := if_neg (by omega)
theorem szA_le {n : Nat} {x : Int} (h : (n : Int) ≤ x) : szA n x = x - n := if_pos h
theorem eqS {x y : ByteArray} (h : (!(x.toList == y.toList)) = false) : x = y := by
  have h2 : x.toList = y.toList := by simpa using h
  rw [Go.ByteArray.toList_eq, Go.ByteArray.toList_eq] at h2
  exact Go.WideShapes.bytes_inj h2

end Go.Proofs.YtoekfmkbkffciaaGreatDoor
