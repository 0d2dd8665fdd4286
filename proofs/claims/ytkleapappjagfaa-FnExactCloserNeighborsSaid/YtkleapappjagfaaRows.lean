/-
  No cell of these rows narrows 'for every input' (looked for: loops, veiled, ifaces, maps, wideKeys, modest, calm, conditions, laid).
  DERIVED. THE GIVEN ROWS OF THIS SEAT. 6 by the template 'for every input the law returns true; each argument reads behind the call as it read before'; 0 by the template 'total and deterministic' (their statements: YtkleapappjagfaaTotals.lean).
  GIVEN WITH THE SEED: the statements are not yours to turn. If you find one false, say at which input.
  Laid BY PROGRAM, IN A SANDBOX (cutbox-rows.mjs): the forced cells as the released guide's own fill.sh prints them over the translation c30b2082e5fd9fe4… (all of the seat's roots in one cut). By AI agents, Wed Nov 11 2026. No macro, syntax, notation, axiom, sorry.
-/
import Derived.Test.YtkleapappjagfaaChecked
import GoSem.Claim
import GoSem.ClaimJoined
import GoSem.ClaimMapViews
import Derived.JoinedTies
import Derived.KernelRfl
namespace Go.Proofs.Ytkleapappjagfaa
/- THE CELL 'sum', in the pinned program and in every row, IS THE sha256 OF THE DUMP (.gsa) THAT YtkleapappjagfaaProg.lean LOADS. Nothing in Lean hashes anything: it is a label: what it is worth is what the hold of that sum in a sandbox is worth. -/
noncomputable def Try.pinned : Pinned := { name := "ytkleapappjagfaa", sum := "c30b2082e5fd9fe484a31d8eac1f589aedca3bcaa265f2fd1644d658d04ff768", checked := Try.checked }
namespace Rows
def none {H : Type} : Left H := { results := [], args := [] }

/-- 'laws.FnExactIsBidirectional': WHATEVER THE INPUT: true; the input reads as it did. -/
def fnExactIsBidirectionalSpec : ChangeSpec := { name := "fnExactIsBidirectional", fn := fun _ => fun
  | [d1, d2, d3] => { results := [.lit (.bool true)], args := [d1, d2, d3] }
  | _ => none }
def fnExactIsBidirectionalRow : OpenClaim := { program := "ytkleapappjagfaa", sum := "c30b2082e5fd9fe484a31d8eac1f589aedca3bcaa265f2fd1644d658d04ff768", func := "loop.example/g00507/laws.FnExactIsBidirectional", spec := "fnExactIsBidirectional", unfollowed := true, recurses := true, apart := false }
def FnExactIsBidirectionalSaid : Prop := fnExactIsBidirectionalRow.holds Try.pinned (OpenSpec.ofChange fnExactIsBidirectionalSpec)

/-- ITS FALSE NEIGHBOUR: 'it returns false'. Refute it at one input. -/
def fnExactIsBidirectionalWrong : ChangeSpec := { name := "fnExactIsBidirectional", fn := fun _ => fun
  | [d1, d2, d3] => { results := [.lit (.bool false)], args := [d1, d2, d3] }
  | _ => none }
def FnExactIsBidirectionalWrongFalsely : Prop := fnExactIsBidirectionalRow.holds Try.pinned (OpenSpec.ofChange fnExactIsBidirectionalWrong)

/-- 'laws.FnExactDistances': WHATEVER THE INPUT: true; the input reads as it did. -/
def fnExactDistancesSpec : ChangeSpec := { name := "fnExactDistances", fn := fun _ => fun
  | [d1, d2] => { results := [.lit (.bool true)], args := [d1, d2] }
  | _ => none }
def fnExactDistancesRow : OpenClaim := { program := "ytkleapappjagfaa", sum := "c30b2082e5fd9fe484a31d8eac1f589aedca3bcaa265f2fd1644d658d04ff768", func := "loop.example/g00507/laws.FnExactDistances", spec := "fnExactDistances", unfollowed := true, recurses := true, apart := false }
def FnExactDistancesSaid : Prop := fnExactDistancesRow.holds Try.pinned (OpenSpec.ofChange fnExactDistancesSpec)

/-- ITS FALSE NEIGHBOUR: 'it returns false'. Refute it at one input. -/
def fnExactDistancesWrong : ChangeSpec := { name := "fnExactDistances", fn := fun _ => fun
  | [d1, d2] => { results := [.lit (.bool false)], args := [d1, d2] }
  | _ => none }
def FnExactDistancesWrongFalsely : Prop := fnExactDistancesRow.holds Try.pinned (OpenSpec.ofChange fnExactDistancesWrong)

/-- 'laws.FnExactDistance': WHATEVER THE INPUT: true; the input reads as it did. -/
def fnExactDistanceSpec : ChangeSpec := { name := "fnExactDistance", fn := fun _ => fun
  | [d1, d2, d3] => { results := [.lit (.bool true)], args := [d1, d2, d3] }
  | _ => none }
def fnExactDistanceRow : OpenClaim := { program := "ytkleapappjagfaa", sum := "c30b2082e5fd9fe484a31d8eac1f589aedca3bcaa265f2fd1644d658d04ff768", func := "loop.example/g00507/laws.FnExactDistance", spec := "fnExactDistance", unfollowed := true, recurses := true, apart := false }
def FnExactDistanceSaid : Prop := fnExactDistanceRow.holds Try.pinned (OpenSpec.ofChange fnExactDistanceSpec)

/-- ITS FALSE NEIGHBOUR: 'it returns false'. Refute it at one input. -/
def fnExactDistanceWrong : ChangeSpec := { name := "fnExactDistance", fn := fun _ => fun
  | [d1, d2, d3] => { results := [.lit (.bool false)], args := [d1, d2, d3] }
  | _ => none }
def FnExactDistanceWrongFalsely : Prop := fnExactDistanceRow.holds Try.pinned (OpenSpec.ofChange fnExactDistanceWrong)

/-- 'laws.FnExactReachableFrom': WHATEVER THE INPUT: true; the input reads as it did. -/
def fnExactReachableFromSpec : ChangeSpec := { name := "fnExactReachableFrom", fn := fun _ => fun
  | [d1, d2] => { results := [.lit (.bool true)], args := [d1, d2] }
  | _ => none }
def fnExactReachableFromRow : OpenClaim := { program := "ytkleapappjagfaa", sum := "c30b2082e5fd9fe484a31d8eac1f589aedca3bcaa265f2fd1644d658d04ff768", func := "loop.example/g00507/laws.FnExactReachableFrom", spec := "fnExactReachableFrom", unfollowed := true, recurses := true, apart := false }
def FnExactReachableFromSaid : Prop := fnExactReachableFromRow.holds Try.pinned (OpenSpec.ofChange fnExactReachableFromSpec)

/-- ITS FALSE NEIGHBOUR: 'it returns false'. Refute it at one input. -/
def fnExactReachableFromWrong : ChangeSpec := { name := "fnExactReachableFrom", fn := fun _ => fun
  | [d1, d2] => { results := [.lit (.bool false)], args := [d1, d2] }
  | _ => none }
def FnExactReachableFromWrongFalsely : Prop := fnExactReachableFromRow.holds Try.pinned (OpenSpec.ofChange fnExactReachableFromWrong)

/-- 'laws.FnExactEccentricity': WHATEVER THE INPUT: true; the input reads as it did. -/
def fnExactEccentricitySpec : ChangeSpec := { name := "fnExactEccentricity", fn := fun _ => fun
  | [d1, d2] => { results := [.lit (.bool true)], args := [d1, d2] }
  | _ => none }
def fnExactEccentricityRow : OpenClaim := { program := "ytkleapappjagfaa", sum := "c30b2082e5fd9fe484a31d8eac1f589aedca3bcaa265f2fd1644d658d04ff768", func := "loop.example/g00507/laws.FnExactEccentricity", spec := "fnExactEccentricity", unfollowed := true, recurses := true, apart := false }
def FnExactEccentricitySaid : Prop := fnExactEccentricityRow.holds Try.pinned (OpenSpec.ofChange fnExactEccentricitySpec)

/-- ITS FALSE NEIGHBOUR: 'it returns false'. Refute it at one input. -/
def fnExactEccentricityWrong : ChangeSpec := { name := "fnExactEccentricity", fn := fun _ => fun
  | [d1, d2] => { results := [.lit (.bool false)], args := [d1, d2] }
  | _ => none }
def FnExactEccentricityWrongFalsely : Prop := fnExactEccentricityRow.holds Try.pinned (OpenSpec.ofChange fnExactEccentricityWrong)

/-- 'laws.FnExactCloserNeighbors': WHATEVER THE INPUT: true; the input reads as it did. -/
def fnExactCloserNeighborsSpec : ChangeSpec := { name := "fnExactCloserNeighbors", fn := fun _ => fun
  | [d1, d2, d3] => { results := [.lit (.bool true)], args := [d1, d2, d3] }
  | _ => none }
def fnExactCloserNeighborsRow : OpenClaim := { program := "ytkleapappjagfaa", sum := "c30b2082e5fd9fe484a31d8eac1f589aedca3bcaa265f2fd1644d658d04ff768", func := "loop.example/g00507/laws.FnExactCloserNeighbors", spec := "fnExactCloserNeighbors", unfollowed := true, recurses := true, apart := false }
def FnExactCloserNeighborsSaid : Prop := fnExactCloserNeighborsRow.holds Try.pinned (OpenSpec.ofChange fnExactCloserNeighborsSpec)

/-- ITS FALSE NEIGHBOUR: 'it returns false'. Refute it at one input. -/
def fnExactCloserNeighborsWrong : ChangeSpec := { name := "fnExactCloserNeighbors", fn := fun _ => fun
  | [d1, d2, d3] => { results := [.lit (.bool false)], args := [d1, d2, d3] }
  | _ => none }
def FnExactCloserNeighborsWrongFalsely : Prop := fnExactCloserNeighborsRow.holds Try.pinned (OpenSpec.ofChange fnExactCloserNeighborsWrong)

/- THE SECOND FORM. 'bulk': how many values and letters a reading holds, each counted each time it is reached (what is shared counts as often as it is met; a slice's spare places count too). A statement '..UptoSaid' is the law's where the arguments, and the package variables that the reading takes, are together of bulk at most 1048576: NARROWER than '..Said'. Prove '..Said' where nothing that the law and all that it calls make is longer than what came in: it says more and counts as full. Else prove '..UptoSaid'. A law counts once. -/
mutual
def uptoBulk {H : Type} : DataW H → Nat
  | .lit (.string bytes) => bytes.length + 1
  | .lit _ => 1
  | .nil => 1
  | .ptr d => uptoBulk d + 1
  | .slice elems spare => uptoBulkAll elems + uptoBulkAll spare + 1
  | .agg parts => uptoBulkAll parts + 1
  | .iface _ d => uptoBulk d + 1
  | .map entries => uptoBulkEntries entries + 1
  | .held _ => 1
def uptoBulkAll {H : Type} : List (DataW H) → Nat
  | [] => 0
  | d :: r => uptoBulk d + uptoBulkAll r
def uptoBulkEntries {H : Type} : List (Lit × DataW H) → Nat
  | [] => 0
  | x :: r => uptoBulkEntry x + uptoBulkEntries r
def uptoBulkEntry {H : Type} : Lit × DataW H → Nat
  | (.string bytes, d) => bytes.length + uptoBulk d + 1
  | (_, d) => uptoBulk d + 1
 end
def uptoSmall : (H : Type) → List (DataW H) → Bool := fun _ ds => decide (uptoBulkAll ds ≤ 1048576)
def OpenSpec.upto (s : _root_.Go.ChangeSpec) : _root_.Go.OpenSpec := { _root_.Go.OpenSpec.ofChange s with cond := some uptoSmall }

/-- 'laws.FnExactIsBidirectional', WHERE WHAT IT READS IS OF BULK AT MOST 1048576: true; the input reads as it did. -/
def fnExactIsBidirectionalUptoRow : OpenClaim := { program := "ytkleapappjagfaa", sum := "c30b2082e5fd9fe484a31d8eac1f589aedca3bcaa265f2fd1644d658d04ff768", func := "loop.example/g00507/laws.FnExactIsBidirectional", spec := "fnExactIsBidirectional", unfollowed := true, recurses := true, apart := false, narrowed := true }
def FnExactIsBidirectionalUptoSaid : Prop := fnExactIsBidirectionalUptoRow.holds Try.pinned (OpenSpec.upto fnExactIsBidirectionalSpec)

/-- 'laws.FnExactDistances', WHERE WHAT IT READS IS OF BULK AT MOST 1048576: true; the input reads as it did. -/
def fnExactDistancesUptoRow : OpenClaim := { program := "ytkleapappjagfaa", sum := "c30b2082e5fd9fe484a31d8eac1f589aedca3bcaa265f2fd1644d658d04ff768", func := "loop.example/g00507/laws.FnExactDistances", spec := "fnExactDistances", unfollowed := true, recurses := true, apart := false, narrowed := true }
def FnExactDistancesUptoSaid : Prop := fnExactDistancesUptoRow.holds Try.pinned (OpenSpec.upto fnExactDistancesSpec)

/-- 'laws.FnExactDistance', WHERE WHAT IT READS IS OF BULK AT MOST 1048576: true; the input reads as it did. -/
def fnExactDistanceUptoRow : OpenClaim := { program := "ytkleapappjagfaa", sum := "c30b2082e5fd9fe484a31d8eac1f589aedca3bcaa265f2fd1644d658d04ff768", func := "loop.example/g00507/laws.FnExactDistance", spec := "fnExactDistance", unfollowed := true, recurses := true, apart := false, narrowed := true }
def FnExactDistanceUptoSaid : Prop := fnExactDistanceUptoRow.holds Try.pinned (OpenSpec.upto fnExactDistanceSpec)

/-- 'laws.FnExactReachableFrom', WHERE WHAT IT READS IS OF BULK AT MOST 1048576: true; the input reads as it did. -/
def fnExactReachableFromUptoRow : OpenClaim := { program := "ytkleapappjagfaa", sum := "c30b2082e5fd9fe484a31d8eac1f589aedca3bcaa265f2fd1644d658d04ff768", func := "loop.example/g00507/laws.FnExactReachableFrom", spec := "fnExactReachableFrom", unfollowed := true, recurses := true, apart := false, narrowed := true }
def FnExactReachableFromUptoSaid : Prop := fnExactReachableFromUptoRow.holds Try.pinned (OpenSpec.upto fnExactReachableFromSpec)

/-- 'laws.FnExactEccentricity', WHERE WHAT IT READS IS OF BULK AT MOST 1048576: true; the input reads as it did. -/
def fnExactEccentricityUptoRow : OpenClaim := { program := "ytkleapappjagfaa", sum := "c30b2082e5fd9fe484a31d8eac1f589aedca3bcaa265f2fd1644d658d04ff768", func := "loop.example/g00507/laws.FnExactEccentricity", spec := "fnExactEccentricity", unfollowed := true, recurses := true, apart := false, narrowed := true }
def FnExactEccentricityUptoSaid : Prop := fnExactEccentricityUptoRow.holds Try.pinned (OpenSpec.upto fnExactEccentricitySpec)

/-- 'laws.FnExactCloserNeighbors', WHERE WHAT IT READS IS OF BULK AT MOST 1048576: true; the input reads as it did. -/
def fnExactCloserNeighborsUptoRow : OpenClaim := { program := "ytkleapappjagfaa", sum := "c30b2082e5fd9fe484a31d8eac1f589aedca3bcaa265f2fd1644d658d04ff768", func := "loop.example/g00507/laws.FnExactCloserNeighbors", spec := "fnExactCloserNeighbors", unfollowed := true, recurses := true, apart := false, narrowed := true }
def FnExactCloserNeighborsUptoSaid : Prop := fnExactCloserNeighborsUptoRow.holds Try.pinned (OpenSpec.upto fnExactCloserNeighborsSpec)

end Rows
end Go.Proofs.Ytkleapappjagfaa
