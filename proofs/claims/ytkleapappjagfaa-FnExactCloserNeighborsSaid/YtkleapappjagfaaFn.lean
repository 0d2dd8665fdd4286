/- Contracts of functions of the program: no statement of the seat is proved here. Each under the conditions that stand in it. -/
import Derived.Test.YtkleapappjagfaaFl
set_option linter.all false
namespace Go.Proofs.Ytkleapappjagfaa
open Go.Vs Go.Proofs
def okCh (x : Int) : Bool := inR x 97 122 || inR x 48 57 || decide (x = 45)
def vPart (s : ByteArray) : Bool := inR s.size 1 8 && s.data.toList.all fun c => okCh c.toNat
def vName (n : Name) : Bool := n.parts.all vPart && decide (n.parts.length ≤ 6)
theorem strs_len {l : List ByteArray} {k : Nat} (h : strsSize l ≤ k) : l.length ≤ k := by unfold strsSize at h; omega
theorem strs_mem {l : List ByteArray} {k : Nat} (h : strsSize l ≤ k) {s : ByteArray} (hs : s ∈ l) : s.size ≤ k := by
  have := sumN_mem ByteArray.size hs
  unfold strsSize at h; omega
theorem strs_snoc (l : List ByteArray) (s : ByteArray) : strsSize (l ++ [s]) = strsSize l + 1 + s.size := by
  simp [strsSize, sumN_snoc]; omega
/-- A name and a bool. -/
abbrev NB (n : Name) (b : Bool) : Arg := (.tup [(true, 1), (false, 1)], [cSs true n.parts, cB b])
def apName (n : Name) (s : ByteArray) : Name := if vName ⟨n.parts ++ [s]⟩ then ⟨n.parts ++ [s]⟩ else n
def apZero (n : Name) (s : ByteArray) : Name := if vName ⟨n.parts ++ [s]⟩ then ⟨n.parts ++ [s]⟩ else ⟨[]⟩
def plan : ByteArray := ⟨#[112, 108, 97, 110]⟩
theorem apZero_size {n : Name} {s : ByteArray} (h : strsSize n.parts ≤ 1048576) (hs : s.size ≤ 1048576) : Name.size (apZero n s) ≤ 1048576000 := by
  have := strs_snoc n.parts s
  unfold apZero
  split
  · simp only [Name.size]; omega
  · simp [Name.size, strsSize, sumN]
end Go.Proofs.Ytkleapappjagfaa
