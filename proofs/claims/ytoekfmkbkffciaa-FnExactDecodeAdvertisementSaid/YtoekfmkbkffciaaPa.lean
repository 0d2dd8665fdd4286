/- Contracts of functions of the program: no statement of the seat is proved here. Each under the conditions that stand in it. -/
import Derived.Test.YtoekfmkbkffciaaWb
import Derived.Test.YtoekfmkbkffciaaSd
import Derived.Test.YtoekfmkbkffciaaFr
import Derived.Test.YtoekfmkbkffciaaFj
import Derived.Test.YtoekfmkbkffciaaFi
set_option linter.all false
namespace Go.Proofs.Ytoekfmkbkffciaa
open Go.Vs Go.Proofs
/-! Signing -/
def secOf (l : List Keyy) (n : Name) : Int := match l.find? (fun k => decide (k.name = n)) with
  | none => 0
  | some k => k.secret
theorem ky_len {l : List Keyy} {g : Keyy} {z : Nat} (hz : l.length + sumN Keyy.size l ≤ z) (h : g ∈ l) : g.name.parts.length ≤ z := by
  have := sumN_mem Keyy.size h
  have h2 : Keyy.size g = strsSize g.name.parts := rfl
  unfold strsSize at h2
  omega
def vData (x : Data) : Bool := vName x.name && decide (0 < x.name.parts.length) && decide (x.content.length ≤ 60) && vName x.keyName && inR x.fresh 0 100000 && inR x.sig 0 2147483646
def Data.sz (x : Data) : Prop := strsSize x.name.parts ≤ 1048576 ∧ x.content.length ≤ 1048576 ∧ strsSize x.keyName.parts ≤ 1048576
def apSs (l : List ByteArray) : List UInt8 := l.flatMap fun s => evi s.size ++ s.data.toList
def apNm (b : List UInt8) (n : Name) : List UInt8 := if vName n then b ++ evi n.parts.length ++ apSs n.parts else b
theorem vName_b {n : Name} (h : vName n = true) : n.parts.length ≤ 6 ∧ ∀ s ∈ n.parts, s.size ≤ 8 := by
  simp [vName] at h
  refine ⟨h.2, fun s hs => ?_⟩
  have := h.1 s hs
  simp [vPart, inR_t] at this
  omega
theorem apSs_len {l : List ByteArray} (h : ∀ s ∈ l, s.size ≤ 8) : (apSs l).length ≤ 14 * l.length := by
  induction l with
  | nil => simp [apSs]
  | cons x l ih =>
    have h1 := evi_len x.size
    have h2 := h x (by simp)
    have h3 := ih (fun s hs => h s (by simp [hs]))
    have h4 := @dsz x
    simp only [apSs, List.flatMap_cons, List.length_append, List.length_cons] at h3 ⊢
    omega
theorem apNm_len (n : Name) : (apNm [] n).length ≤ 100 := by
  unfold apNm
  split
  · rename_i h
    have h2 := vName_b h
    have h3 := apSs_len h2.2
    have h4 := evi_len n.parts.length
    simp only [List.length_append, List.length_nil]
    omega
  · simp
theorem apSs_nil : apSs [] = [] := rfl
theorem apSs_snoc (l : List ByteArray) (x : ByteArray) : apSs (l ++ [x]) = apSs l ++ (evi x.size ++ x.data.toList) := by simp [apSs]
theorem dsI (s : ByteArray) : ((s.data.toList.length : Nat) : Int) = (s.size : Int) := by rw [dsz]
end Go.Proofs.Ytoekfmkbkffciaa
