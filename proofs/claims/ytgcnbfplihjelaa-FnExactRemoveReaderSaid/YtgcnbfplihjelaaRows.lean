/-
  No cell of these rows narrows 'for every input' (looked for: loops, veiled, ifaces, maps, wideKeys, modest, calm, conditions, laid).
  DERIVED. THE GIVEN ROWS OF THIS SEAT. 3 by the template 'for every input the law returns true; each argument reads behind the call as it read before'; 0 by the template 'total and deterministic' (their statements: YtgcnbfplihjelaaTotals.lean).
  GIVEN WITH THE SEED: the statements are not yours to turn. If you find one false, say at which input.
  Laid BY PROGRAM, IN A SANDBOX (cutbox-rows.mjs): the forced cells as the released guide's own fill.sh prints them over the translation da40f9701caf9af7… (all of the seat's roots in one cut). By AI agents, Wed Nov 11 2026. No macro, syntax, notation, axiom, sorry.
-/
import Derived.Test.YtgcnbfplihjelaaChecked
import GoSem.Claim
import GoSem.ClaimJoined
import GoSem.ClaimMapViews
import Derived.JoinedTies
import Derived.KernelRfl
namespace Go.Proofs.Ytgcnbfplihjelaa
/- THE CELL 'sum', in the pinned program and in every row, IS THE sha256 OF THE DUMP (.gsa) THAT YtgcnbfplihjelaaProg.lean LOADS. Nothing in Lean hashes anything: it is a label: what it is worth is what the hold of that sum in a sandbox is worth. -/
noncomputable def Try.pinned : Pinned := { name := "ytgcnbfplihjelaa", sum := "da40f9701caf9af7bf68b779e53591fb2e1b68b852618a8e832c754f5439056d", checked := Try.checked }
namespace Rows
def none {H : Type} : Left H := { results := [], args := [] }

/-- 'laws.FnLossy': WHATEVER THE INPUT: true; the input reads as it did. -/
def fnLossySpec : ChangeSpec := { name := "fnLossy", fn := fun _ => fun
  | [d] => { results := [.lit (.bool true)], args := [d] }
  | _ => none }
def fnLossyRow : OpenClaim := { program := "ytgcnbfplihjelaa", sum := "da40f9701caf9af7bf68b779e53591fb2e1b68b852618a8e832c754f5439056d", func := "loop.example/g00507/laws.FnLossy", spec := "fnLossy", unfollowed := true, recurses := true, apart := false }
def FnLossySaid : Prop := fnLossyRow.holds Try.pinned (OpenSpec.ofChange fnLossySpec)

/-- ITS FALSE NEIGHBOUR: 'it returns false'. Refute it at one input. -/
def fnLossyWrong : ChangeSpec := { name := "fnLossy", fn := fun _ => fun
  | [d] => { results := [.lit (.bool false)], args := [d] }
  | _ => none }
def FnLossyWrongFalsely : Prop := fnLossyRow.holds Try.pinned (OpenSpec.ofChange fnLossyWrong)

/-- 'laws.FnFetches': WHATEVER THE INPUT: true; the input reads as it did. -/
def fnFetchesSpec : ChangeSpec := { name := "fnFetches", fn := fun _ => fun
  | [d] => { results := [.lit (.bool true)], args := [d] }
  | _ => none }
def fnFetchesRow : OpenClaim := { program := "ytgcnbfplihjelaa", sum := "da40f9701caf9af7bf68b779e53591fb2e1b68b852618a8e832c754f5439056d", func := "loop.example/g00507/laws.FnFetches", spec := "fnFetches", unfollowed := true, recurses := true, apart := false }
def FnFetchesSaid : Prop := fnFetchesRow.holds Try.pinned (OpenSpec.ofChange fnFetchesSpec)

/-- ITS FALSE NEIGHBOUR: 'it returns false'. Refute it at one input. -/
def fnFetchesWrong : ChangeSpec := { name := "fnFetches", fn := fun _ => fun
  | [d] => { results := [.lit (.bool false)], args := [d] }
  | _ => none }
def FnFetchesWrongFalsely : Prop := fnFetchesRow.holds Try.pinned (OpenSpec.ofChange fnFetchesWrong)

/-- 'laws.FnExactRemoveReader': WHATEVER THE INPUT: true; the input reads as it did. -/
def fnExactRemoveReaderSpec : ChangeSpec := { name := "fnExactRemoveReader", fn := fun _ => fun
  | [d1, d2, d3] => { results := [.lit (.bool true)], args := [d1, d2, d3] }
  | _ => none }
def fnExactRemoveReaderRow : OpenClaim := { program := "ytgcnbfplihjelaa", sum := "da40f9701caf9af7bf68b779e53591fb2e1b68b852618a8e832c754f5439056d", func := "loop.example/g00507/laws.FnExactRemoveReader", spec := "fnExactRemoveReader", unfollowed := true, recurses := true, apart := false }
def FnExactRemoveReaderSaid : Prop := fnExactRemoveReaderRow.holds Try.pinned (OpenSpec.ofChange fnExactRemoveReaderSpec)

/-- ITS FALSE NEIGHBOUR: 'it returns false'. Refute it at one input. -/
def fnExactRemoveReaderWrong : ChangeSpec := { name := "fnExactRemoveReader", fn := fun _ => fun
  | [d1, d2, d3] => { results := [.lit (.bool false)], args := [d1, d2, d3] }
  | _ => none }
def FnExactRemoveReaderWrongFalsely : Prop := fnExactRemoveReaderRow.holds Try.pinned (OpenSpec.ofChange fnExactRemoveReaderWrong)

/- THE SECOND FORM. 'bulk': how many values and letters a reading holds, each counted each time it is reached (what is shared counts as often as it is met; a slice's spare places count too). A statement '..UptoSaid' is the law's where the arguments, and the package variables that the reading takes, are together of bulk at most 1048576: NARROWER than '..Said'. Prove '..Said' where nothing that the law and all that it calls make is longer than what came in: it says more and counts as full. Else prove '..UptoSaid'. A law counts once. -/
mutual
def uptoBulk {H : Type} : DataW H → Nat
  | .lit (.string bytes) => bytes.length + 1
  | .lit _ => 1
  | .nil => 1
  | .ptr d => uptoBulk d + 1
  | .slice elems spare => uptoBulkAll elems + uptoBulkAll spare + 1
  | .agg parts => uptoBulkAll parts + 1
  | .iface _ d => uptoBulk d + 1
  | .map entries => uptoBulkEntries entries + 1
  | .held _ => 1
def uptoBulkAll {H : Type} : List (DataW H) → Nat
  | [] => 0
  | d :: r => uptoBulk d + uptoBulkAll r
def uptoBulkEntries {H : Type} : List (Lit × DataW H) → Nat
  | [] => 0
  | x :: r => uptoBulkEntry x + uptoBulkEntries r
def uptoBulkEntry {H : Type} : Lit × DataW H → Nat
  | (.string bytes, d) => bytes.length + uptoBulk d + 1
  | (_, d) => uptoBulk d + 1
 end
def uptoSmall : (H : Type) → List (DataW H) → Bool := fun _ ds => decide (uptoBulkAll ds ≤ 1048576)
def OpenSpec.upto (s : _root_.Go.ChangeSpec) : _root_.Go.OpenSpec := { _root_.Go.OpenSpec.ofChange s with cond := some uptoSmall }

/-- 'laws.FnLossy', WHERE WHAT IT READS IS OF BULK AT MOST 1048576: true; the input reads as it did. -/
def fnLossyUptoRow : OpenClaim := { program := "ytgcnbfplihjelaa", sum := "da40f9701caf9af7bf68b779e53591fb2e1b68b852618a8e832c754f5439056d", func := "loop.example/g00507/laws.FnLossy", spec := "fnLossy", unfollowed := true, recurses := true, apart := false, narrowed := true }
def FnLossyUptoSaid : Prop := fnLossyUptoRow.holds Try.pinned (OpenSpec.upto fnLossySpec)

/-- 'laws.FnFetches', WHERE WHAT IT READS IS OF BULK AT MOST 1048576: true; the input reads as it did. -/
def fnFetchesUptoRow : OpenClaim := { program := "ytgcnbfplihjelaa", sum := "da40f9701caf9af7bf68b779e53591fb2e1b68b852618a8e832c754f5439056d", func := "loop.example/g00507/laws.FnFetches", spec := "fnFetches", unfollowed := true, recurses := true, apart := false, narrowed := true }
def FnFetchesUptoSaid : Prop := fnFetchesUptoRow.holds Try.pinned (OpenSpec.upto fnFetchesSpec)

/-- 'laws.FnExactRemoveReader', WHERE WHAT IT READS IS OF BULK AT MOST 1048576: true; the input reads as it did. -/
def fnExactRemoveReaderUptoRow : OpenClaim := { program := "ytgcnbfplihjelaa", sum := "da40f9701caf9af7bf68b779e53591fb2e1b68b852618a8e832c754f5439056d", func := "loop.example/g00507/laws.FnExactRemoveReader", spec := "fnExactRemoveReader", unfollowed := true, recurses := true, apart := false, narrowed := true }
def FnExactRemoveReaderUptoSaid : Prop := fnExactRemoveReaderUptoRow.holds Try.pinned (OpenSpec.upto fnExactRemoveReaderSpec)

end Rows
end Go.Proofs.Ytgcnbfplihjelaa
