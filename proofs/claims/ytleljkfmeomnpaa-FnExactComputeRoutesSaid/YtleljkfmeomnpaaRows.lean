/-
  No cell of these rows narrows 'for every input' (looked for: loops, veiled, ifaces, maps, wideKeys, modest, calm, conditions, laid).
  DERIVED. THE GIVEN ROWS OF THIS SEAT. 6 by the template 'for every input the law returns true; each argument reads behind the call as it read before'; 0 by the template 'total and deterministic' (their statements: YtleljkfmeomnpaaTotals.lean).
  GIVEN WITH THE SEED: the statements are not yours to turn. If you find one false, say at which input.
  Laid BY PROGRAM, IN A SANDBOX (cutbox-rows.mjs): the forced cells as the released guide's own fill.sh prints them over the translation 14fafff13caf8952… (all of the seat's roots in one cut). By AI agents, Wed Nov 11 2026. No macro, syntax, notation, axiom, sorry.
-/
import Derived.Test.YtleljkfmeomnpaaChecked
import GoSem.Claim
import GoSem.ClaimJoined
import GoSem.ClaimMapViews
import Derived.JoinedTies
import Derived.KernelRfl
namespace Go.Proofs.Ytleljkfmeomnpaa
/- THE CELL 'sum', in the pinned program and in every row, IS THE sha256 OF THE DUMP (.gsa) THAT YtleljkfmeomnpaaProg.lean LOADS. Nothing in Lean hashes anything: it is a label: what it is worth is what the hold of that sum in a sandbox is worth. -/
noncomputable def Try.pinned : Pinned := { name := "ytleljkfmeomnpaa", sum := "14fafff13caf8952286fdc845db5beb4dad5bceb81ec3283579e0b7296878793", checked := Try.checked }
namespace Rows
def none {H : Type} : Left H := { results := [], args := [] }

/-- 'laws.FnExactProducersOf': WHATEVER THE INPUT: true; the input reads as it did. -/
def fnExactProducersOfSpec : ChangeSpec := { name := "fnExactProducersOf", fn := fun _ => fun
  | [d1, d2] => { results := [.lit (.bool true)], args := [d1, d2] }
  | _ => none }
def fnExactProducersOfRow : OpenClaim := { program := "ytleljkfmeomnpaa", sum := "14fafff13caf8952286fdc845db5beb4dad5bceb81ec3283579e0b7296878793", func := "loop.example/g00507/laws.FnExactProducersOf", spec := "fnExactProducersOf", unfollowed := true, recurses := true, apart := false }
def FnExactProducersOfSaid : Prop := fnExactProducersOfRow.holds Try.pinned (OpenSpec.ofChange fnExactProducersOfSpec)

/-- ITS FALSE NEIGHBOUR: 'it returns false'. Refute it at one input. -/
def fnExactProducersOfWrong : ChangeSpec := { name := "fnExactProducersOf", fn := fun _ => fun
  | [d1, d2] => { results := [.lit (.bool false)], args := [d1, d2] }
  | _ => none }
def FnExactProducersOfWrongFalsely : Prop := fnExactProducersOfRow.holds Try.pinned (OpenSpec.ofChange fnExactProducersOfWrong)

/-- 'laws.FnExactNearestProducer': WHATEVER THE INPUT: true; the input reads as it did. -/
def fnExactNearestProducerSpec : ChangeSpec := { name := "fnExactNearestProducer", fn := fun _ => fun
  | [d1, d2, d3] => { results := [.lit (.bool true)], args := [d1, d2, d3] }
  | _ => none }
def fnExactNearestProducerRow : OpenClaim := { program := "ytleljkfmeomnpaa", sum := "14fafff13caf8952286fdc845db5beb4dad5bceb81ec3283579e0b7296878793", func := "loop.example/g00507/laws.FnExactNearestProducer", spec := "fnExactNearestProducer", unfollowed := true, recurses := true, apart := false }
def FnExactNearestProducerSaid : Prop := fnExactNearestProducerRow.holds Try.pinned (OpenSpec.ofChange fnExactNearestProducerSpec)

/-- ITS FALSE NEIGHBOUR: 'it returns false'. Refute it at one input. -/
def fnExactNearestProducerWrong : ChangeSpec := { name := "fnExactNearestProducer", fn := fun _ => fun
  | [d1, d2, d3] => { results := [.lit (.bool false)], args := [d1, d2, d3] }
  | _ => none }
def FnExactNearestProducerWrongFalsely : Prop := fnExactNearestProducerRow.holds Try.pinned (OpenSpec.ofChange fnExactNearestProducerWrong)

/-- 'laws.FnExactHasProducer': WHATEVER THE INPUT: true; the input reads as it did. -/
def fnExactHasProducerSpec : ChangeSpec := { name := "fnExactHasProducer", fn := fun _ => fun
  | [d1, d2, d3] => { results := [.lit (.bool true)], args := [d1, d2, d3] }
  | _ => none }
def fnExactHasProducerRow : OpenClaim := { program := "ytleljkfmeomnpaa", sum := "14fafff13caf8952286fdc845db5beb4dad5bceb81ec3283579e0b7296878793", func := "loop.example/g00507/laws.FnExactHasProducer", spec := "fnExactHasProducer", unfollowed := true, recurses := true, apart := false }
def FnExactHasProducerSaid : Prop := fnExactHasProducerRow.holds Try.pinned (OpenSpec.ofChange fnExactHasProducerSpec)

/-- ITS FALSE NEIGHBOUR: 'it returns false'. Refute it at one input. -/
def fnExactHasProducerWrong : ChangeSpec := { name := "fnExactHasProducer", fn := fun _ => fun
  | [d1, d2, d3] => { results := [.lit (.bool false)], args := [d1, d2, d3] }
  | _ => none }
def FnExactHasProducerWrongFalsely : Prop := fnExactHasProducerRow.holds Try.pinned (OpenSpec.ofChange fnExactHasProducerWrong)

/-- 'laws.FnExactLeadsCloser': WHATEVER THE INPUT: true; the input reads as it did. -/
def fnExactLeadsCloserSpec : ChangeSpec := { name := "fnExactLeadsCloser", fn := fun _ => fun
  | [d1, d2, d3, d4, d5] => { results := [.lit (.bool true)], args := [d1, d2, d3, d4, d5] }
  | _ => none }
def fnExactLeadsCloserRow : OpenClaim := { program := "ytleljkfmeomnpaa", sum := "14fafff13caf8952286fdc845db5beb4dad5bceb81ec3283579e0b7296878793", func := "loop.example/g00507/laws.FnExactLeadsCloser", spec := "fnExactLeadsCloser", unfollowed := true, recurses := true, apart := false }
def FnExactLeadsCloserSaid : Prop := fnExactLeadsCloserRow.holds Try.pinned (OpenSpec.ofChange fnExactLeadsCloserSpec)

/-- ITS FALSE NEIGHBOUR: 'it returns false'. Refute it at one input. -/
def fnExactLeadsCloserWrong : ChangeSpec := { name := "fnExactLeadsCloser", fn := fun _ => fun
  | [d1, d2, d3, d4, d5] => { results := [.lit (.bool false)], args := [d1, d2, d3, d4, d5] }
  | _ => none }
def FnExactLeadsCloserWrongFalsely : Prop := fnExactLeadsCloserRow.holds Try.pinned (OpenSpec.ofChange fnExactLeadsCloserWrong)

/-- 'laws.FnExactAdvertisementsOf': WHATEVER THE INPUT: true; the input reads as it did. -/
def fnExactAdvertisementsOfSpec : ChangeSpec := { name := "fnExactAdvertisementsOf", fn := fun _ => fun
  | [d1, d2, d3] => { results := [.lit (.bool true)], args := [d1, d2, d3] }
  | _ => none }
def fnExactAdvertisementsOfRow : OpenClaim := { program := "ytleljkfmeomnpaa", sum := "14fafff13caf8952286fdc845db5beb4dad5bceb81ec3283579e0b7296878793", func := "loop.example/g00507/laws.FnExactAdvertisementsOf", spec := "fnExactAdvertisementsOf", unfollowed := true, recurses := true, apart := false }
def FnExactAdvertisementsOfSaid : Prop := fnExactAdvertisementsOfRow.holds Try.pinned (OpenSpec.ofChange fnExactAdvertisementsOfSpec)

/-- ITS FALSE NEIGHBOUR: 'it returns false'. Refute it at one input. -/
def fnExactAdvertisementsOfWrong : ChangeSpec := { name := "fnExactAdvertisementsOf", fn := fun _ => fun
  | [d1, d2, d3] => { results := [.lit (.bool false)], args := [d1, d2, d3] }
  | _ => none }
def FnExactAdvertisementsOfWrongFalsely : Prop := fnExactAdvertisementsOfRow.holds Try.pinned (OpenSpec.ofChange fnExactAdvertisementsOfWrong)

/-- 'laws.FnExactComputeRoutes': WHATEVER THE INPUT: true; the input reads as it did. -/
def fnExactComputeRoutesSpec : ChangeSpec := { name := "fnExactComputeRoutes", fn := fun _ => fun
  | [d1, d2, d3] => { results := [.lit (.bool true)], args := [d1, d2, d3] }
  | _ => none }
def fnExactComputeRoutesRow : OpenClaim := { program := "ytleljkfmeomnpaa", sum := "14fafff13caf8952286fdc845db5beb4dad5bceb81ec3283579e0b7296878793", func := "loop.example/g00507/laws.FnExactComputeRoutes", spec := "fnExactComputeRoutes", unfollowed := true, recurses := true, apart := false }
def FnExactComputeRoutesSaid : Prop := fnExactComputeRoutesRow.holds Try.pinned (OpenSpec.ofChange fnExactComputeRoutesSpec)

/-- ITS FALSE NEIGHBOUR: 'it returns false'. Refute it at one input. -/
def fnExactComputeRoutesWrong : ChangeSpec := { name := "fnExactComputeRoutes", fn := fun _ => fun
  | [d1, d2, d3] => { results := [.lit (.bool false)], args := [d1, d2, d3] }
  | _ => none }
def FnExactComputeRoutesWrongFalsely : Prop := fnExactComputeRoutesRow.holds Try.pinned (OpenSpec.ofChange fnExactComputeRoutesWrong)

/- THE SECOND FORM. 'bulk': how many values and letters a reading holds, each counted each time it is reached (what is shared counts as often as it is met; a slice's spare places count too). A statement '..UptoSaid' is the law's where the arguments, and the package variables that the reading takes, are together of bulk at most 1048576: NARROWER than '..Said'. Prove '..Said' where nothing that the law and all that it calls make is longer than what came in: it says more and counts as full. Else prove '..UptoSaid'. A law counts once. -/
mutual
def uptoBulk {H : Type} : DataW H → Nat
  | .lit (.string bytes) => bytes.length + 1
  | .lit _ => 1
  | .nil => 1
  | .ptr d => uptoBulk d + 1
  | .slice elems spare => uptoBulkAll elems + uptoBulkAll spare + 1
  | .agg parts => uptoBulkAll parts + 1
  | .iface _ d => uptoBulk d + 1
  | .map entries => uptoBulkEntries entries + 1
  | .held _ => 1
def uptoBulkAll {H : Type} : List (DataW H) → Nat
  | [] => 0
  | d :: r => uptoBulk d + uptoBulkAll r
def uptoBulkEntries {H : Type} : List (Lit × DataW H) → Nat
  | [] => 0
  | x :: r => uptoBulkEntry x + uptoBulkEntries r
def uptoBulkEntry {H : Type} : Lit × DataW H → Nat
  | (.string bytes, d) => bytes.length + uptoBulk d + 1
  | (_, d) => uptoBulk d + 1
 end
def uptoSmall : (H : Type) → List (DataW H) → Bool := fun _ ds => decide (uptoBulkAll ds ≤ 1048576)
def OpenSpec.upto (s : _root_.Go.ChangeSpec) : _root_.Go.OpenSpec := { _root_.Go.OpenSpec.ofChange s with cond := some uptoSmall }

/-- 'laws.FnExactProducersOf', WHERE WHAT IT READS IS OF BULK AT MOST 1048576: true; the input reads as it did. -/
def fnExactProducersOfUptoRow : OpenClaim := { program := "ytleljkfmeomnpaa", sum := "14fafff13caf8952286fdc845db5beb4dad5bceb81ec3283579e0b7296878793", func := "loop.example/g00507/laws.FnExactProducersOf", spec := "fnExactProducersOf", unfollowed := true, recurses := true, apart := false, narrowed := true }
def FnExactProducersOfUptoSaid : Prop := fnExactProducersOfUptoRow.holds Try.pinned (OpenSpec.upto fnExactProducersOfSpec)

/-- 'laws.FnExactNearestProducer', WHERE WHAT IT READS IS OF BULK AT MOST 1048576: true; the input reads as it did. -/
def fnExactNearestProducerUptoRow : OpenClaim := { program := "ytleljkfmeomnpaa", sum := "14fafff13caf8952286fdc845db5beb4dad5bceb81ec3283579e0b7296878793", func := "loop.example/g00507/laws.FnExactNearestProducer", spec := "fnExactNearestProducer", unfollowed := true, recurses := true, apart := false, narrowed := true }
def FnExactNearestProducerUptoSaid : Prop := fnExactNearestProducerUptoRow.holds Try.pinned (OpenSpec.upto fnExactNearestProducerSpec)

/-- 'laws.FnExactHasProducer', WHERE WHAT IT READS IS OF BULK AT MOST 1048576: true; the input reads as it did. -/
def fnExactHasProducerUptoRow : OpenClaim := { program := "ytleljkfmeomnpaa", sum := "14fafff13caf8952286fdc845db5beb4dad5bceb81ec3283579e0b7296878793", func := "loop.example/g00507/laws.FnExactHasProducer", spec := "fnExactHasProducer", unfollowed := true, recurses := true, apart := false, narrowed := true }
def FnExactHasProducerUptoSaid : Prop := fnExactHasProducerUptoRow.holds Try.pinned (OpenSpec.upto fnExactHasProducerSpec)

/-- 'laws.FnExactLeadsCloser', WHERE WHAT IT READS IS OF BULK AT MOST 1048576: true; the input reads as it did. -/
def fnExactLeadsCloserUptoRow : OpenClaim := { program := "ytleljkfmeomnpaa", sum := "14fafff13caf8952286fdc845db5beb4dad5bceb81ec3283579e0b7296878793", func := "loop.example/g00507/laws.FnExactLeadsCloser", spec := "fnExactLeadsCloser", unfollowed := true, recurses := true, apart := false, narrowed := true }
def FnExactLeadsCloserUptoSaid : Prop := fnExactLeadsCloserUptoRow.holds Try.pinned (OpenSpec.upto fnExactLeadsCloserSpec)

/-- 'laws.FnExactAdvertisementsOf', WHERE WHAT IT READS IS OF BULK AT MOST 1048576: true; the input reads as it did. -/
def fnExactAdvertisementsOfUptoRow : OpenClaim := { program := "ytleljkfmeomnpaa", sum := "14fafff13caf8952286fdc845db5beb4dad5bceb81ec3283579e0b7296878793", func := "loop.example/g00507/laws.FnExactAdvertisementsOf", spec := "fnExactAdvertisementsOf", unfollowed := true, recurses := true, apart := false, narrowed := true }
def FnExactAdvertisementsOfUptoSaid : Prop := fnExactAdvertisementsOfUptoRow.holds Try.pinned (OpenSpec.upto fnExactAdvertisementsOfSpec)

/-- 'laws.FnExactComputeRoutes', WHERE WHAT IT READS IS OF BULK AT MOST 1048576: true; the input reads as it did. -/
def fnExactComputeRoutesUptoRow : OpenClaim := { program := "ytleljkfmeomnpaa", sum := "14fafff13caf8952286fdc845db5beb4dad5bceb81ec3283579e0b7296878793", func := "loop.example/g00507/laws.FnExactComputeRoutes", spec := "fnExactComputeRoutes", unfollowed := true, recurses := true, apart := false, narrowed := true }
def FnExactComputeRoutesUptoSaid : Prop := fnExactComputeRoutesUptoRow.holds Try.pinned (OpenSpec.upto fnExactComputeRoutesSpec)

end Rows
end Go.Proofs.Ytleljkfmeomnpaa
