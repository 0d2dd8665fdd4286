/-
  No cell of these rows narrows 'for every input' (looked for: loops, veiled, ifaces, maps, wideKeys, modest, calm, conditions, laid).
  DERIVED. THE GIVEN ROWS OF THIS SEAT. 6 by the template 'for every input the law returns true; each argument reads behind the call as it read before'; 0 by the template 'total and deterministic' (their statements: YtaeehoafpmimbaaTotals.lean).
  GIVEN WITH THE SEED: the statements are not yours to turn. If you find one false, say at which input.
  Laid BY PROGRAM, IN A SANDBOX (cutbox-rows.mjs): the forced cells as the released guide's own fill.sh prints them over the translation 5645788fbc995fdb… (all of the seat's roots in one cut). By AI agents, Wed Nov 11 2026. No macro, syntax, notation, axiom, sorry.
-/
import Derived.Test.YtaeehoafpmimbaaChecked
import GoSem.Claim
import GoSem.ClaimJoined
import GoSem.ClaimMapViews
import Derived.JoinedTies
import Derived.KernelRfl
namespace Go.Proofs.Ytaeehoafpmimbaa
/- THE CELL 'sum', in the pinned program and in every row, IS THE sha256 OF THE DUMP (.gsa) THAT YtaeehoafpmimbaaProg.lean LOADS. Nothing in Lean hashes anything: it is a label: what it is worth is what the hold of that sum in a sandbox is worth. -/
noncomputable def Try.pinned : Pinned := { name := "ytaeehoafpmimbaa", sum := "5645788fbc995fdbf8ff7714faaaa297cff83dcbb5267c049b7509a1d15d1aa2", checked := Try.checked }
namespace Rows
def none {H : Type} : Left H := { results := [], args := [] }

/-- 'laws.FnExactMayRead': WHATEVER THE INPUT: true; the input reads as it did. -/
def fnExactMayReadSpec : ChangeSpec := { name := "fnExactMayRead", fn := fun _ => fun
  | [d1, d2, d3] => { results := [.lit (.bool true)], args := [d1, d2, d3] }
  | _ => none }
def fnExactMayReadRow : OpenClaim := { program := "ytaeehoafpmimbaa", sum := "5645788fbc995fdbf8ff7714faaaa297cff83dcbb5267c049b7509a1d15d1aa2", func := "loop.example/g00507/laws.FnExactMayRead", spec := "fnExactMayRead", unfollowed := true, recurses := true, apart := false }
def FnExactMayReadSaid : Prop := fnExactMayReadRow.holds Try.pinned (OpenSpec.ofChange fnExactMayReadSpec)

/-- ITS FALSE NEIGHBOUR: 'it returns false'. Refute it at one input. -/
def fnExactMayReadWrong : ChangeSpec := { name := "fnExactMayRead", fn := fun _ => fun
  | [d1, d2, d3] => { results := [.lit (.bool false)], args := [d1, d2, d3] }
  | _ => none }
def FnExactMayReadWrongFalsely : Prop := fnExactMayReadRow.holds Try.pinned (OpenSpec.ofChange fnExactMayReadWrong)

/-- 'laws.FnExactAnyoneExcluded': WHATEVER THE INPUT: true; the input reads as it did. -/
def fnExactAnyoneExcludedSpec : ChangeSpec := { name := "fnExactAnyoneExcluded", fn := fun _ => fun
  | [d1, d2, d3] => { results := [.lit (.bool true)], args := [d1, d2, d3] }
  | _ => none }
def fnExactAnyoneExcludedRow : OpenClaim := { program := "ytaeehoafpmimbaa", sum := "5645788fbc995fdbf8ff7714faaaa297cff83dcbb5267c049b7509a1d15d1aa2", func := "loop.example/g00507/laws.FnExactAnyoneExcluded", spec := "fnExactAnyoneExcluded", unfollowed := true, recurses := true, apart := false }
def FnExactAnyoneExcludedSaid : Prop := fnExactAnyoneExcludedRow.holds Try.pinned (OpenSpec.ofChange fnExactAnyoneExcludedSpec)

/-- ITS FALSE NEIGHBOUR: 'it returns false'. Refute it at one input. -/
def fnExactAnyoneExcludedWrong : ChangeSpec := { name := "fnExactAnyoneExcluded", fn := fun _ => fun
  | [d1, d2, d3] => { results := [.lit (.bool false)], args := [d1, d2, d3] }
  | _ => none }
def FnExactAnyoneExcludedWrongFalsely : Prop := fnExactAnyoneExcludedRow.holds Try.pinned (OpenSpec.ofChange fnExactAnyoneExcludedWrong)

/-- 'laws.FnExactValidReaders': WHATEVER THE INPUT: true; the input reads as it did. -/
def fnExactValidReadersSpec : ChangeSpec := { name := "fnExactValidReaders", fn := fun _ => fun
  | [d] => { results := [.lit (.bool true)], args := [d] }
  | _ => none }
def fnExactValidReadersRow : OpenClaim := { program := "ytaeehoafpmimbaa", sum := "5645788fbc995fdbf8ff7714faaaa297cff83dcbb5267c049b7509a1d15d1aa2", func := "loop.example/g00507/laws.FnExactValidReaders", spec := "fnExactValidReaders", unfollowed := true, recurses := true, apart := false }
def FnExactValidReadersSaid : Prop := fnExactValidReadersRow.holds Try.pinned (OpenSpec.ofChange fnExactValidReadersSpec)

/-- ITS FALSE NEIGHBOUR: 'it returns false'. Refute it at one input. -/
def fnExactValidReadersWrong : ChangeSpec := { name := "fnExactValidReaders", fn := fun _ => fun
  | [d] => { results := [.lit (.bool false)], args := [d] }
  | _ => none }
def FnExactValidReadersWrongFalsely : Prop := fnExactValidReadersRow.holds Try.pinned (OpenSpec.ofChange fnExactValidReadersWrong)

/-- 'laws.FnExactReadersOf': WHATEVER THE INPUT: true; the input reads as it did. -/
def fnExactReadersOfSpec : ChangeSpec := { name := "fnExactReadersOf", fn := fun _ => fun
  | [d1, d2] => { results := [.lit (.bool true)], args := [d1, d2] }
  | _ => none }
def fnExactReadersOfRow : OpenClaim := { program := "ytaeehoafpmimbaa", sum := "5645788fbc995fdbf8ff7714faaaa297cff83dcbb5267c049b7509a1d15d1aa2", func := "loop.example/g00507/laws.FnExactReadersOf", spec := "fnExactReadersOf", unfollowed := true, recurses := true, apart := false }
def FnExactReadersOfSaid : Prop := fnExactReadersOfRow.holds Try.pinned (OpenSpec.ofChange fnExactReadersOfSpec)

/-- ITS FALSE NEIGHBOUR: 'it returns false'. Refute it at one input. -/
def fnExactReadersOfWrong : ChangeSpec := { name := "fnExactReadersOf", fn := fun _ => fun
  | [d1, d2] => { results := [.lit (.bool false)], args := [d1, d2] }
  | _ => none }
def FnExactReadersOfWrongFalsely : Prop := fnExactReadersOfRow.holds Try.pinned (OpenSpec.ofChange fnExactReadersOfWrong)

/-- 'laws.FnExactAddReader': WHATEVER THE INPUT: true; the input reads as it did. -/
def fnExactAddReaderSpec : ChangeSpec := { name := "fnExactAddReader", fn := fun _ => fun
  | [d1, d2] => { results := [.lit (.bool true)], args := [d1, d2] }
  | _ => none }
def fnExactAddReaderRow : OpenClaim := { program := "ytaeehoafpmimbaa", sum := "5645788fbc995fdbf8ff7714faaaa297cff83dcbb5267c049b7509a1d15d1aa2", func := "loop.example/g00507/laws.FnExactAddReader", spec := "fnExactAddReader", unfollowed := true, recurses := true, apart := false }
def FnExactAddReaderSaid : Prop := fnExactAddReaderRow.holds Try.pinned (OpenSpec.ofChange fnExactAddReaderSpec)

/-- ITS FALSE NEIGHBOUR: 'it returns false'. Refute it at one input. -/
def fnExactAddReaderWrong : ChangeSpec := { name := "fnExactAddReader", fn := fun _ => fun
  | [d1, d2] => { results := [.lit (.bool false)], args := [d1, d2] }
  | _ => none }
def FnExactAddReaderWrongFalsely : Prop := fnExactAddReaderRow.holds Try.pinned (OpenSpec.ofChange fnExactAddReaderWrong)

/-- 'laws.FnExactGrantsOf': WHATEVER THE INPUT: true; the input reads as it did. -/
def fnExactGrantsOfSpec : ChangeSpec := { name := "fnExactGrantsOf", fn := fun _ => fun
  | [d1, d2, d3] => { results := [.lit (.bool true)], args := [d1, d2, d3] }
  | _ => none }
def fnExactGrantsOfRow : OpenClaim := { program := "ytaeehoafpmimbaa", sum := "5645788fbc995fdbf8ff7714faaaa297cff83dcbb5267c049b7509a1d15d1aa2", func := "loop.example/g00507/laws.FnExactGrantsOf", spec := "fnExactGrantsOf", apart := false }
def FnExactGrantsOfSaid : Prop := fnExactGrantsOfRow.holds Try.pinned (OpenSpec.ofChange fnExactGrantsOfSpec)

/-- ITS FALSE NEIGHBOUR: 'it returns false'. Refute it at one input. -/
def fnExactGrantsOfWrong : ChangeSpec := { name := "fnExactGrantsOf", fn := fun _ => fun
  | [d1, d2, d3] => { results := [.lit (.bool false)], args := [d1, d2, d3] }
  | _ => none }
def FnExactGrantsOfWrongFalsely : Prop := fnExactGrantsOfRow.holds Try.pinned (OpenSpec.ofChange fnExactGrantsOfWrong)

/- THE SECOND FORM. 'bulk': how many values and letters a reading holds, each counted each time it is reached (what is shared counts as often as it is met; a slice's spare places count too). A statement '..UptoSaid' is the law's where the arguments, and the package variables that the reading takes, are together of bulk at most 1048576: NARROWER than '..Said'. Prove '..Said' where nothing that the law and all that it calls make is longer than what came in: it says more and counts as full. Else prove '..UptoSaid'. A law counts once. -/
mutual
def uptoBulk {H : Type} : DataW H → Nat
  | .lit (.string bytes) => bytes.length + 1
  | .lit _ => 1
  | .nil => 1
  | .ptr d => uptoBulk d + 1
  | .slice elems spare => uptoBulkAll elems + uptoBulkAll spare + 1
  | .agg parts => uptoBulkAll parts + 1
  | .iface _ d => uptoBulk d + 1
  | .map entries => uptoBulkEntries entries + 1
  | .held _ => 1
def uptoBulkAll {H : Type} : List (DataW H) → Nat
  | [] => 0
  | d :: r => uptoBulk d + uptoBulkAll r
def uptoBulkEntries {H : Type} : List (Lit × DataW H) → Nat
  | [] => 0
  | x :: r => uptoBulkEntry x + uptoBulkEntries r
def uptoBulkEntry {H : Type} : Lit × DataW H → Nat
  | (.string bytes, d) => bytes.length + uptoBulk d + 1
  | (_, d) => uptoBulk d + 1
 end
def uptoSmall : (H : Type) → List (DataW H) → Bool := fun _ ds => decide (uptoBulkAll ds ≤ 1048576)
def OpenSpec.upto (s : _root_.Go.ChangeSpec) : _root_.Go.OpenSpec := { _root_.Go.OpenSpec.ofChange s with cond := some uptoSmall }

/-- 'laws.FnExactMayRead', WHERE WHAT IT READS IS OF BULK AT MOST 1048576: true; the input reads as it did. -/
def fnExactMayReadUptoRow : OpenClaim := { program := "ytaeehoafpmimbaa", sum := "5645788fbc995fdbf8ff7714faaaa297cff83dcbb5267c049b7509a1d15d1aa2", func := "loop.example/g00507/laws.FnExactMayRead", spec := "fnExactMayRead", unfollowed := true, recurses := true, apart := false, narrowed := true }
def FnExactMayReadUptoSaid : Prop := fnExactMayReadUptoRow.holds Try.pinned (OpenSpec.upto fnExactMayReadSpec)

/-- 'laws.FnExactAnyoneExcluded', WHERE WHAT IT READS IS OF BULK AT MOST 1048576: true; the input reads as it did. -/
def fnExactAnyoneExcludedUptoRow : OpenClaim := { program := "ytaeehoafpmimbaa", sum := "5645788fbc995fdbf8ff7714faaaa297cff83dcbb5267c049b7509a1d15d1aa2", func := "loop.example/g00507/laws.FnExactAnyoneExcluded", spec := "fnExactAnyoneExcluded", unfollowed := true, recurses := true, apart := false, narrowed := true }
def FnExactAnyoneExcludedUptoSaid : Prop := fnExactAnyoneExcludedUptoRow.holds Try.pinned (OpenSpec.upto fnExactAnyoneExcludedSpec)

/-- 'laws.FnExactValidReaders', WHERE WHAT IT READS IS OF BULK AT MOST 1048576: true; the input reads as it did. -/
def fnExactValidReadersUptoRow : OpenClaim := { program := "ytaeehoafpmimbaa", sum := "5645788fbc995fdbf8ff7714faaaa297cff83dcbb5267c049b7509a1d15d1aa2", func := "loop.example/g00507/laws.FnExactValidReaders", spec := "fnExactValidReaders", unfollowed := true, recurses := true, apart := false, narrowed := true }
def FnExactValidReadersUptoSaid : Prop := fnExactValidReadersUptoRow.holds Try.pinned (OpenSpec.upto fnExactValidReadersSpec)

/-- 'laws.FnExactReadersOf', WHERE WHAT IT READS IS OF BULK AT MOST 1048576: true; the input reads as it did. -/
def fnExactReadersOfUptoRow : OpenClaim := { program := "ytaeehoafpmimbaa", sum := "5645788fbc995fdbf8ff7714faaaa297cff83dcbb5267c049b7509a1d15d1aa2", func := "loop.example/g00507/laws.FnExactReadersOf", spec := "fnExactReadersOf", unfollowed := true, recurses := true, apart := false, narrowed := true }
def FnExactReadersOfUptoSaid : Prop := fnExactReadersOfUptoRow.holds Try.pinned (OpenSpec.upto fnExactReadersOfSpec)

/-- 'laws.FnExactAddReader', WHERE WHAT IT READS IS OF BULK AT MOST 1048576: true; the input reads as it did. -/
def fnExactAddReaderUptoRow : OpenClaim := { program := "ytaeehoafpmimbaa", sum := "5645788fbc995fdbf8ff7714faaaa297cff83dcbb5267c049b7509a1d15d1aa2", func := "loop.example/g00507/laws.FnExactAddReader", spec := "fnExactAddReader", unfollowed := true, recurses := true, apart := false, narrowed := true }
def FnExactAddReaderUptoSaid : Prop := fnExactAddReaderUptoRow.holds Try.pinned (OpenSpec.upto fnExactAddReaderSpec)

/-- 'laws.FnExactGrantsOf', WHERE WHAT IT READS IS OF BULK AT MOST 1048576: true; the input reads as it did. -/
def fnExactGrantsOfUptoRow : OpenClaim := { program := "ytaeehoafpmimbaa", sum := "5645788fbc995fdbf8ff7714faaaa297cff83dcbb5267c049b7509a1d15d1aa2", func := "loop.example/g00507/laws.FnExactGrantsOf", spec := "fnExactGrantsOf", apart := false, narrowed := true }
def FnExactGrantsOfUptoSaid : Prop := fnExactGrantsOfUptoRow.holds Try.pinned (OpenSpec.upto fnExactGrantsOfSpec)

end Rows
end Go.Proofs.Ytaeehoafpmimbaa
