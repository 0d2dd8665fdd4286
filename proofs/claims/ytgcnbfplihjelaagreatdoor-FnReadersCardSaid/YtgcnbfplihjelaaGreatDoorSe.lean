/- Contracts of functions of the program: no statement of the seat is proved here. Each under the conditions that stand in it. -/
import Derived.Test.YtgcnbfplihjelaaGreatDoorSd
import Derived.Test.YtgcnbfplihjelaaGreatDoorFr
set_option linter.all false
namespace Go.Proofs.YtgcnbfplihjelaaGreatDoor
open Go.Vs Go.Proofs
def openC (l : List Gran) (n : Name) (b : List UInt8) : Option (List UInt8) := match rdV b 0 0 with
  | none => none
  | some (x, c) => if l.any (covs n) = true then (if (x : Int) = mac (gsec l n) (b2i (decL (gsec l n) (b.drop c))) then some (decL (gsec l n) (b.drop c)) else none) else none
abbrev YB (b : List UInt8) (ok : Bool) : Arg := (.tup [(false, 1), (false, 1)], [cYs true b, cB ok])
theorem yb_non (ok : Bool) : WkR (.tup [(false, 1), (false, 1)], [AV.sl true .non 1 [], cB ok]) (YB [] ok) := WkR.of (.top (.refl _))
theorem yb_nil (ok : Bool) : WkR (.tup [(false, 1), (false, 1)], [AV.sl true .isnil 0 [], cB ok]) (YB [] ok) := WkR.of (.nils (.refl _))
def openB (l : List Gran) (n : Name) (b : List UInt8) : List UInt8 := (openC l n b).getD []
def openO (l : List Gran) (n : Name) (b : List UInt8) : Bool := (openC l n b).isSome
theorem openB_len (l : List Gran) (n : Name) (b : List UInt8) : (openB l n b).length ≤ b.length := by
  unfold openB openC
  split
  · simp
  · split
    · split <;> simp
    · simp
abbrev GB (g : Gran) (b : Bool) : Arg := (.tup [(true, 2), (false, 1)], [cSs true g.name.parts, cI g.secret, cB b])
def narG (g : Gran) (s : ByteArray) : Gran := if vName ⟨g.name.parts ++ [s]⟩ then ⟨⟨g.name.parts ++ [s]⟩, dsec g.secret s⟩ else g
theorem narG_size {g : Gran} {s : ByteArray} (h : strsSize g.name.parts ≤ 1048576) (hs : s.size ≤ 1048576) : Gran.size (narG g s) ≤ 2097153 := by
  have := strs_snoc g.name.parts s
  unfold narG
  split
  · simp only [Gran.size, Name.size]; omega
  · simp only [Gran.size, Name.size]; omega
theorem mkGran_size {k : Int} {n : Name} (h : strsSize n.parts ≤ 1048576) : Gran.size (mkGran k n) ≤ 1048576 := h
theorem sealC_len (k : Int) (n : Name) (b : List UInt8) : (sealC k n b).length ≤ b.length + 6 := by
  have := evi_len (mac (nsec k n.parts) (b2i b))
  simp [sealC]; omega
end Go.Proofs.YtgcnbfplihjelaaGreatDoor
