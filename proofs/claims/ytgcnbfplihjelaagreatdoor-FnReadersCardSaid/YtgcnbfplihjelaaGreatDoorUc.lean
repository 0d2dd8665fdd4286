/- Contracts of functions of the program: no statement of the seat is proved here. Each under the conditions that stand in it. -/
import Derived.Test.YtgcnbfplihjelaaGreatDoorUb
set_option linter.all false
namespace Go.Proofs.YtgcnbfplihjelaaGreatDoor
open Go.Vs Go.Proofs
/-! Grants, drawn -/
def gT (N : Nat → Name) (j : Nat) : List Gran := (List.range j).map fun k => mkGran 900 (N k)
theorem gT_succ (N : Nat → Name) (j : Nat) : gT N (j + 1) = gT N j ++ [mkGran 900 (N j)] := by simp [gT, List.range_succ]
theorem gT_len (N : Nat → Name) (j : Nat) : (gT N j).length = j := by simp [gT]
theorem gT_size {N : Nat → Name} (h : ∀ j, strsSize (N j).parts ≤ 27) : ∀ j, sumN Gran.size (gT N j) ≤ 27 * j
  | 0 => by simp [gT, sumN]
  | j + 1 => by
    have h1 := gT_size h j
    have h2 : Gran.size (mkGran 900 (N j)) ≤ 27 := h j
    rw [gT_succ, sumN_snoc]; omega
abbrev Gs (o : Bool) (l : List Gran) : Arg := O (sl o 2 (l.map (Gran.c o)))
end Go.Proofs.YtgcnbfplihjelaaGreatDoor
