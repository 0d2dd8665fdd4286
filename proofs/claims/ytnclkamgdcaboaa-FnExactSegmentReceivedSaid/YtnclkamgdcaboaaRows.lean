/-
  No cell of these rows narrows 'for every input' (looked for: loops, veiled, ifaces, maps, wideKeys, modest, calm, conditions, laid).
  DERIVED. THE GIVEN ROWS OF THIS SEAT. 12 by the template 'for every input the law returns true; each argument reads behind the call as it read before'; 0 by the template 'total and deterministic' (their statements: YtnclkamgdcaboaaTotals.lean).
  GIVEN WITH THE SEED: the statements are not yours to turn. If you find one false, say at which input.
  Laid BY PROGRAM, IN A SANDBOX (cutbox-rows.mjs): the forced cells as the released guide's own fill.sh prints them over the translation d3f59b8cc361da1e… (all of the seat's roots in one cut). By AI agents, Wed Nov 11 2026. No macro, syntax, notation, axiom, sorry.
-/
import Derived.Test.YtnclkamgdcaboaaChecked
import GoSem.Claim
import GoSem.ClaimJoined
import GoSem.ClaimMapViews
import Derived.JoinedTies
import Derived.KernelRfl
namespace Go.Proofs.Ytnclkamgdcaboaa
/- THE CELL 'sum', in the pinned program and in every row, IS THE sha256 OF THE DUMP (.gsa) THAT YtnclkamgdcaboaaProg.lean LOADS. Nothing in Lean hashes anything: it is a label: what it is worth is what the hold of that sum in a sandbox is worth. -/
noncomputable def Try.pinned : Pinned := { name := "ytnclkamgdcaboaa", sum := "d3f59b8cc361da1e131611f35e39182d005b468892d98ec24f8bdd0a65bd7a4d", checked := Try.checked }
namespace Rows
def none {H : Type} : Left H := { results := [], args := [] }

/-- 'laws.FnExactValidFetcher': WHATEVER THE INPUT: true; the input reads as it did. -/
def fnExactValidFetcherSpec : ChangeSpec := { name := "fnExactValidFetcher", fn := fun _ => fun
  | [d] => { results := [.lit (.bool true)], args := [d] }
  | _ => none }
def fnExactValidFetcherRow : OpenClaim := { program := "ytnclkamgdcaboaa", sum := "d3f59b8cc361da1e131611f35e39182d005b468892d98ec24f8bdd0a65bd7a4d", func := "loop.example/g00507/laws.FnExactValidFetcher", spec := "fnExactValidFetcher", unfollowed := true, recurses := true, apart := false }
def FnExactValidFetcherSaid : Prop := fnExactValidFetcherRow.holds Try.pinned (OpenSpec.ofChange fnExactValidFetcherSpec)

/-- ITS FALSE NEIGHBOUR: 'it returns false'. Refute it at one input. -/
def fnExactValidFetcherWrong : ChangeSpec := { name := "fnExactValidFetcher", fn := fun _ => fun
  | [d] => { results := [.lit (.bool false)], args := [d] }
  | _ => none }
def FnExactValidFetcherWrongFalsely : Prop := fnExactValidFetcherRow.holds Try.pinned (OpenSpec.ofChange fnExactValidFetcherWrong)

/-- 'laws.FnExactIsComplete': WHATEVER THE INPUT: true; the input reads as it did. -/
def fnExactIsCompleteSpec : ChangeSpec := { name := "fnExactIsComplete", fn := fun _ => fun
  | [d] => { results := [.lit (.bool true)], args := [d] }
  | _ => none }
def fnExactIsCompleteRow : OpenClaim := { program := "ytnclkamgdcaboaa", sum := "d3f59b8cc361da1e131611f35e39182d005b468892d98ec24f8bdd0a65bd7a4d", func := "loop.example/g00507/laws.FnExactIsComplete", spec := "fnExactIsComplete", unfollowed := true, recurses := true, apart := false }
def FnExactIsCompleteSaid : Prop := fnExactIsCompleteRow.holds Try.pinned (OpenSpec.ofChange fnExactIsCompleteSpec)

/-- ITS FALSE NEIGHBOUR: 'it returns false'. Refute it at one input. -/
def fnExactIsCompleteWrong : ChangeSpec := { name := "fnExactIsComplete", fn := fun _ => fun
  | [d] => { results := [.lit (.bool false)], args := [d] }
  | _ => none }
def FnExactIsCompleteWrongFalsely : Prop := fnExactIsCompleteRow.holds Try.pinned (OpenSpec.ofChange fnExactIsCompleteWrong)

/-- 'laws.FnExactSegmentLost': WHATEVER THE INPUT: true; the input reads as it did. -/
def fnExactSegmentLostSpec : ChangeSpec := { name := "fnExactSegmentLost", fn := fun _ => fun
  | [d1, d2] => { results := [.lit (.bool true)], args := [d1, d2] }
  | _ => none }
def fnExactSegmentLostRow : OpenClaim := { program := "ytnclkamgdcaboaa", sum := "d3f59b8cc361da1e131611f35e39182d005b468892d98ec24f8bdd0a65bd7a4d", func := "loop.example/g00507/laws.FnExactSegmentLost", spec := "fnExactSegmentLost", apart := false }
def FnExactSegmentLostSaid : Prop := fnExactSegmentLostRow.holds Try.pinned (OpenSpec.ofChange fnExactSegmentLostSpec)

/-- ITS FALSE NEIGHBOUR: 'it returns false'. Refute it at one input. -/
def fnExactSegmentLostWrong : ChangeSpec := { name := "fnExactSegmentLost", fn := fun _ => fun
  | [d1, d2] => { results := [.lit (.bool false)], args := [d1, d2] }
  | _ => none }
def FnExactSegmentLostWrongFalsely : Prop := fnExactSegmentLostRow.holds Try.pinned (OpenSpec.ofChange fnExactSegmentLostWrong)

/-- 'laws.FnExactMarkRequested': WHATEVER THE INPUT: true; the input reads as it did. -/
def fnExactMarkRequestedSpec : ChangeSpec := { name := "fnExactMarkRequested", fn := fun _ => fun
  | [d1, d2] => { results := [.lit (.bool true)], args := [d1, d2] }
  | _ => none }
def fnExactMarkRequestedRow : OpenClaim := { program := "ytnclkamgdcaboaa", sum := "d3f59b8cc361da1e131611f35e39182d005b468892d98ec24f8bdd0a65bd7a4d", func := "loop.example/g00507/laws.FnExactMarkRequested", spec := "fnExactMarkRequested", apart := false }
def FnExactMarkRequestedSaid : Prop := fnExactMarkRequestedRow.holds Try.pinned (OpenSpec.ofChange fnExactMarkRequestedSpec)

/-- ITS FALSE NEIGHBOUR: 'it returns false'. Refute it at one input. -/
def fnExactMarkRequestedWrong : ChangeSpec := { name := "fnExactMarkRequested", fn := fun _ => fun
  | [d1, d2] => { results := [.lit (.bool false)], args := [d1, d2] }
  | _ => none }
def FnExactMarkRequestedWrongFalsely : Prop := fnExactMarkRequestedRow.holds Try.pinned (OpenSpec.ofChange fnExactMarkRequestedWrong)

/-- 'laws.FnExactSegmentReceived': WHATEVER THE INPUT: true; the input reads as it did. -/
def fnExactSegmentReceivedSpec : ChangeSpec := { name := "fnExactSegmentReceived", fn := fun _ => fun
  | [d1, d2, d3] => { results := [.lit (.bool true)], args := [d1, d2, d3] }
  | _ => none }
def fnExactSegmentReceivedRow : OpenClaim := { program := "ytnclkamgdcaboaa", sum := "d3f59b8cc361da1e131611f35e39182d005b468892d98ec24f8bdd0a65bd7a4d", func := "loop.example/g00507/laws.FnExactSegmentReceived", spec := "fnExactSegmentReceived", unfollowed := true, recurses := true, apart := false }
def FnExactSegmentReceivedSaid : Prop := fnExactSegmentReceivedRow.holds Try.pinned (OpenSpec.ofChange fnExactSegmentReceivedSpec)

/-- ITS FALSE NEIGHBOUR: 'it returns false'. Refute it at one input. -/
def fnExactSegmentReceivedWrong : ChangeSpec := { name := "fnExactSegmentReceived", fn := fun _ => fun
  | [d1, d2, d3] => { results := [.lit (.bool false)], args := [d1, d2, d3] }
  | _ => none }
def FnExactSegmentReceivedWrongFalsely : Prop := fnExactSegmentReceivedRow.holds Try.pinned (OpenSpec.ofChange fnExactSegmentReceivedWrong)

/-- 'laws.FnExactNamespaceSecret': WHATEVER THE INPUT: true; the input reads as it did. -/
def fnExactNamespaceSecretSpec : ChangeSpec := { name := "fnExactNamespaceSecret", fn := fun _ => fun
  | [d1, d2] => { results := [.lit (.bool true)], args := [d1, d2] }
  | _ => none }
def fnExactNamespaceSecretRow : OpenClaim := { program := "ytnclkamgdcaboaa", sum := "d3f59b8cc361da1e131611f35e39182d005b468892d98ec24f8bdd0a65bd7a4d", func := "loop.example/g00507/laws.FnExactNamespaceSecret", spec := "fnExactNamespaceSecret", apart := false }
def FnExactNamespaceSecretSaid : Prop := fnExactNamespaceSecretRow.holds Try.pinned (OpenSpec.ofChange fnExactNamespaceSecretSpec)

/-- ITS FALSE NEIGHBOUR: 'it returns false'. Refute it at one input. -/
def fnExactNamespaceSecretWrong : ChangeSpec := { name := "fnExactNamespaceSecret", fn := fun _ => fun
  | [d1, d2] => { results := [.lit (.bool false)], args := [d1, d2] }
  | _ => none }
def FnExactNamespaceSecretWrongFalsely : Prop := fnExactNamespaceSecretRow.holds Try.pinned (OpenSpec.ofChange fnExactNamespaceSecretWrong)

/-- 'laws.FnExactGrantCovers': WHATEVER THE INPUT: true; the input reads as it did. -/
def fnExactGrantCoversSpec : ChangeSpec := { name := "fnExactGrantCovers", fn := fun _ => fun
  | [d1, d2] => { results := [.lit (.bool true)], args := [d1, d2] }
  | _ => none }
def fnExactGrantCoversRow : OpenClaim := { program := "ytnclkamgdcaboaa", sum := "d3f59b8cc361da1e131611f35e39182d005b468892d98ec24f8bdd0a65bd7a4d", func := "loop.example/g00507/laws.FnExactGrantCovers", spec := "fnExactGrantCovers", unfollowed := true, recurses := true, apart := false }
def FnExactGrantCoversSaid : Prop := fnExactGrantCoversRow.holds Try.pinned (OpenSpec.ofChange fnExactGrantCoversSpec)

/-- ITS FALSE NEIGHBOUR: 'it returns false'. Refute it at one input. -/
def fnExactGrantCoversWrong : ChangeSpec := { name := "fnExactGrantCovers", fn := fun _ => fun
  | [d1, d2] => { results := [.lit (.bool false)], args := [d1, d2] }
  | _ => none }
def FnExactGrantCoversWrongFalsely : Prop := fnExactGrantCoversRow.holds Try.pinned (OpenSpec.ofChange fnExactGrantCoversWrong)

/-- 'laws.FnExactMakeGrant': WHATEVER THE INPUT: true; the input reads as it did. -/
def fnExactMakeGrantSpec : ChangeSpec := { name := "fnExactMakeGrant", fn := fun _ => fun
  | [d1, d2] => { results := [.lit (.bool true)], args := [d1, d2] }
  | _ => none }
def fnExactMakeGrantRow : OpenClaim := { program := "ytnclkamgdcaboaa", sum := "d3f59b8cc361da1e131611f35e39182d005b468892d98ec24f8bdd0a65bd7a4d", func := "loop.example/g00507/laws.FnExactMakeGrant", spec := "fnExactMakeGrant", apart := false }
def FnExactMakeGrantSaid : Prop := fnExactMakeGrantRow.holds Try.pinned (OpenSpec.ofChange fnExactMakeGrantSpec)

/-- ITS FALSE NEIGHBOUR: 'it returns false'. Refute it at one input. -/
def fnExactMakeGrantWrong : ChangeSpec := { name := "fnExactMakeGrant", fn := fun _ => fun
  | [d1, d2] => { results := [.lit (.bool false)], args := [d1, d2] }
  | _ => none }
def FnExactMakeGrantWrongFalsely : Prop := fnExactMakeGrantRow.holds Try.pinned (OpenSpec.ofChange fnExactMakeGrantWrong)

/-- 'laws.FnExactSealContent': WHATEVER THE INPUT: true; the input reads as it did. -/
def fnExactSealContentSpec : ChangeSpec := { name := "fnExactSealContent", fn := fun _ => fun
  | [d1, d2, d3] => { results := [.lit (.bool true)], args := [d1, d2, d3] }
  | _ => none }
def fnExactSealContentRow : OpenClaim := { program := "ytnclkamgdcaboaa", sum := "d3f59b8cc361da1e131611f35e39182d005b468892d98ec24f8bdd0a65bd7a4d", func := "loop.example/g00507/laws.FnExactSealContent", spec := "fnExactSealContent", apart := false }
def FnExactSealContentSaid : Prop := fnExactSealContentRow.holds Try.pinned (OpenSpec.ofChange fnExactSealContentSpec)

/-- ITS FALSE NEIGHBOUR: 'it returns false'. Refute it at one input. -/
def fnExactSealContentWrong : ChangeSpec := { name := "fnExactSealContent", fn := fun _ => fun
  | [d1, d2, d3] => { results := [.lit (.bool false)], args := [d1, d2, d3] }
  | _ => none }
def FnExactSealContentWrongFalsely : Prop := fnExactSealContentRow.holds Try.pinned (OpenSpec.ofChange fnExactSealContentWrong)

/-- 'laws.FnExactGrantedSecret': WHATEVER THE INPUT: true; the input reads as it did. -/
def fnExactGrantedSecretSpec : ChangeSpec := { name := "fnExactGrantedSecret", fn := fun _ => fun
  | [d1, d2] => { results := [.lit (.bool true)], args := [d1, d2] }
  | _ => none }
def fnExactGrantedSecretRow : OpenClaim := { program := "ytnclkamgdcaboaa", sum := "d3f59b8cc361da1e131611f35e39182d005b468892d98ec24f8bdd0a65bd7a4d", func := "loop.example/g00507/laws.FnExactGrantedSecret", spec := "fnExactGrantedSecret", apart := false }
def FnExactGrantedSecretSaid : Prop := fnExactGrantedSecretRow.holds Try.pinned (OpenSpec.ofChange fnExactGrantedSecretSpec)

/-- ITS FALSE NEIGHBOUR: 'it returns false'. Refute it at one input. -/
def fnExactGrantedSecretWrong : ChangeSpec := { name := "fnExactGrantedSecret", fn := fun _ => fun
  | [d1, d2] => { results := [.lit (.bool false)], args := [d1, d2] }
  | _ => none }
def FnExactGrantedSecretWrongFalsely : Prop := fnExactGrantedSecretRow.holds Try.pinned (OpenSpec.ofChange fnExactGrantedSecretWrong)

/-- 'laws.FnExactNarrowGrant': WHATEVER THE INPUT: true; the input reads as it did. -/
def fnExactNarrowGrantSpec : ChangeSpec := { name := "fnExactNarrowGrant", fn := fun _ => fun
  | [d1, d2] => { results := [.lit (.bool true)], args := [d1, d2] }
  | _ => none }
def fnExactNarrowGrantRow : OpenClaim := { program := "ytnclkamgdcaboaa", sum := "d3f59b8cc361da1e131611f35e39182d005b468892d98ec24f8bdd0a65bd7a4d", func := "loop.example/g00507/laws.FnExactNarrowGrant", spec := "fnExactNarrowGrant", unfollowed := true, recurses := true, apart := false }
def FnExactNarrowGrantSaid : Prop := fnExactNarrowGrantRow.holds Try.pinned (OpenSpec.ofChange fnExactNarrowGrantSpec)

/-- ITS FALSE NEIGHBOUR: 'it returns false'. Refute it at one input. -/
def fnExactNarrowGrantWrong : ChangeSpec := { name := "fnExactNarrowGrant", fn := fun _ => fun
  | [d1, d2] => { results := [.lit (.bool false)], args := [d1, d2] }
  | _ => none }
def FnExactNarrowGrantWrongFalsely : Prop := fnExactNarrowGrantRow.holds Try.pinned (OpenSpec.ofChange fnExactNarrowGrantWrong)

/-- 'laws.FnExactOpenContent': WHATEVER THE INPUT: true; the input reads as it did. -/
def fnExactOpenContentSpec : ChangeSpec := { name := "fnExactOpenContent", fn := fun _ => fun
  | [d1, d2, d3] => { results := [.lit (.bool true)], args := [d1, d2, d3] }
  | _ => none }
def fnExactOpenContentRow : OpenClaim := { program := "ytnclkamgdcaboaa", sum := "d3f59b8cc361da1e131611f35e39182d005b468892d98ec24f8bdd0a65bd7a4d", func := "loop.example/g00507/laws.FnExactOpenContent", spec := "fnExactOpenContent", unfollowed := true, recurses := true, apart := false }
def FnExactOpenContentSaid : Prop := fnExactOpenContentRow.holds Try.pinned (OpenSpec.ofChange fnExactOpenContentSpec)

/-- ITS FALSE NEIGHBOUR: 'it returns false'. Refute it at one input. -/
def fnExactOpenContentWrong : ChangeSpec := { name := "fnExactOpenContent", fn := fun _ => fun
  | [d1, d2, d3] => { results := [.lit (.bool false)], args := [d1, d2, d3] }
  | _ => none }
def FnExactOpenContentWrongFalsely : Prop := fnExactOpenContentRow.holds Try.pinned (OpenSpec.ofChange fnExactOpenContentWrong)

/- THE SECOND FORM. 'bulk': how many values and letters a reading holds, each counted each time it is reached (what is shared counts as often as it is met; a slice's spare places count too). A statement '..UptoSaid' is the law's where the arguments, and the package variables that the reading takes, are together of bulk at most 1048576: NARROWER than '..Said'. Prove '..Said' where nothing that the law and all that it calls make is longer than what came in: it says more and counts as full. Else prove '..UptoSaid'. A law counts once. -/
mutual
def uptoBulk {H : Type} : DataW H → Nat
  | .lit (.string bytes) => bytes.length + 1
  | .lit _ => 1
  | .nil => 1
  | .ptr d => uptoBulk d + 1
  | .slice elems spare => uptoBulkAll elems + uptoBulkAll spare + 1
  | .agg parts => uptoBulkAll parts + 1
  | .iface _ d => uptoBulk d + 1
  | .map entries => uptoBulkEntries entries + 1
  | .held _ => 1
def uptoBulkAll {H : Type} : List (DataW H) → Nat
  | [] => 0
  | d :: r => uptoBulk d + uptoBulkAll r
def uptoBulkEntries {H : Type} : List (Lit × DataW H) → Nat
  | [] => 0
  | x :: r => uptoBulkEntry x + uptoBulkEntries r
def uptoBulkEntry {H : Type} : Lit × DataW H → Nat
  | (.string bytes, d) => bytes.length + uptoBulk d + 1
  | (_, d) => uptoBulk d + 1
 end
def uptoSmall : (H : Type) → List (DataW H) → Bool := fun _ ds => decide (uptoBulkAll ds ≤ 1048576)
def OpenSpec.upto (s : _root_.Go.ChangeSpec) : _root_.Go.OpenSpec := { _root_.Go.OpenSpec.ofChange s with cond := some uptoSmall }

/-- 'laws.FnExactValidFetcher', WHERE WHAT IT READS IS OF BULK AT MOST 1048576: true; the input reads as it did. -/
def fnExactValidFetcherUptoRow : OpenClaim := { program := "ytnclkamgdcaboaa", sum := "d3f59b8cc361da1e131611f35e39182d005b468892d98ec24f8bdd0a65bd7a4d", func := "loop.example/g00507/laws.FnExactValidFetcher", spec := "fnExactValidFetcher", unfollowed := true, recurses := true, apart := false, narrowed := true }
def FnExactValidFetcherUptoSaid : Prop := fnExactValidFetcherUptoRow.holds Try.pinned (OpenSpec.upto fnExactValidFetcherSpec)

/-- 'laws.FnExactIsComplete', WHERE WHAT IT READS IS OF BULK AT MOST 1048576: true; the input reads as it did. -/
def fnExactIsCompleteUptoRow : OpenClaim := { program := "ytnclkamgdcaboaa", sum := "d3f59b8cc361da1e131611f35e39182d005b468892d98ec24f8bdd0a65bd7a4d", func := "loop.example/g00507/laws.FnExactIsComplete", spec := "fnExactIsComplete", unfollowed := true, recurses := true, apart := false, narrowed := true }
def FnExactIsCompleteUptoSaid : Prop := fnExactIsCompleteUptoRow.holds Try.pinned (OpenSpec.upto fnExactIsCompleteSpec)

/-- 'laws.FnExactSegmentLost', WHERE WHAT IT READS IS OF BULK AT MOST 1048576: true; the input reads as it did. -/
def fnExactSegmentLostUptoRow : OpenClaim := { program := "ytnclkamgdcaboaa", sum := "d3f59b8cc361da1e131611f35e39182d005b468892d98ec24f8bdd0a65bd7a4d", func := "loop.example/g00507/laws.FnExactSegmentLost", spec := "fnExactSegmentLost", apart := false, narrowed := true }
def FnExactSegmentLostUptoSaid : Prop := fnExactSegmentLostUptoRow.holds Try.pinned (OpenSpec.upto fnExactSegmentLostSpec)

/-- 'laws.FnExactMarkRequested', WHERE WHAT IT READS IS OF BULK AT MOST 1048576: true; the input reads as it did. -/
def fnExactMarkRequestedUptoRow : OpenClaim := { program := "ytnclkamgdcaboaa", sum := "d3f59b8cc361da1e131611f35e39182d005b468892d98ec24f8bdd0a65bd7a4d", func := "loop.example/g00507/laws.FnExactMarkRequested", spec := "fnExactMarkRequested", apart := false, narrowed := true }
def FnExactMarkRequestedUptoSaid : Prop := fnExactMarkRequestedUptoRow.holds Try.pinned (OpenSpec.upto fnExactMarkRequestedSpec)

/-- 'laws.FnExactSegmentReceived', WHERE WHAT IT READS IS OF BULK AT MOST 1048576: true; the input reads as it did. -/
def fnExactSegmentReceivedUptoRow : OpenClaim := { program := "ytnclkamgdcaboaa", sum := "d3f59b8cc361da1e131611f35e39182d005b468892d98ec24f8bdd0a65bd7a4d", func := "loop.example/g00507/laws.FnExactSegmentReceived", spec := "fnExactSegmentReceived", unfollowed := true, recurses := true, apart := false, narrowed := true }
def FnExactSegmentReceivedUptoSaid : Prop := fnExactSegmentReceivedUptoRow.holds Try.pinned (OpenSpec.upto fnExactSegmentReceivedSpec)

/-- 'laws.FnExactNamespaceSecret', WHERE WHAT IT READS IS OF BULK AT MOST 1048576: true; the input reads as it did. -/
def fnExactNamespaceSecretUptoRow : OpenClaim := { program := "ytnclkamgdcaboaa", sum := "d3f59b8cc361da1e131611f35e39182d005b468892d98ec24f8bdd0a65bd7a4d", func := "loop.example/g00507/laws.FnExactNamespaceSecret", spec := "fnExactNamespaceSecret", apart := false, narrowed := true }
def FnExactNamespaceSecretUptoSaid : Prop := fnExactNamespaceSecretUptoRow.holds Try.pinned (OpenSpec.upto fnExactNamespaceSecretSpec)

/-- 'laws.FnExactGrantCovers', WHERE WHAT IT READS IS OF BULK AT MOST 1048576: true; the input reads as it did. -/
def fnExactGrantCoversUptoRow : OpenClaim := { program := "ytnclkamgdcaboaa", sum := "d3f59b8cc361da1e131611f35e39182d005b468892d98ec24f8bdd0a65bd7a4d", func := "loop.example/g00507/laws.FnExactGrantCovers", spec := "fnExactGrantCovers", unfollowed := true, recurses := true, apart := false, narrowed := true }
def FnExactGrantCoversUptoSaid : Prop := fnExactGrantCoversUptoRow.holds Try.pinned (OpenSpec.upto fnExactGrantCoversSpec)

/-- 'laws.FnExactMakeGrant', WHERE WHAT IT READS IS OF BULK AT MOST 1048576: true; the input reads as it did. -/
def fnExactMakeGrantUptoRow : OpenClaim := { program := "ytnclkamgdcaboaa", sum := "d3f59b8cc361da1e131611f35e39182d005b468892d98ec24f8bdd0a65bd7a4d", func := "loop.example/g00507/laws.FnExactMakeGrant", spec := "fnExactMakeGrant", apart := false, narrowed := true }
def FnExactMakeGrantUptoSaid : Prop := fnExactMakeGrantUptoRow.holds Try.pinned (OpenSpec.upto fnExactMakeGrantSpec)

/-- 'laws.FnExactSealContent', WHERE WHAT IT READS IS OF BULK AT MOST 1048576: true; the input reads as it did. -/
def fnExactSealContentUptoRow : OpenClaim := { program := "ytnclkamgdcaboaa", sum := "d3f59b8cc361da1e131611f35e39182d005b468892d98ec24f8bdd0a65bd7a4d", func := "loop.example/g00507/laws.FnExactSealContent", spec := "fnExactSealContent", apart := false, narrowed := true }
def FnExactSealContentUptoSaid : Prop := fnExactSealContentUptoRow.holds Try.pinned (OpenSpec.upto fnExactSealContentSpec)

/-- 'laws.FnExactGrantedSecret', WHERE WHAT IT READS IS OF BULK AT MOST 1048576: true; the input reads as it did. -/
def fnExactGrantedSecretUptoRow : OpenClaim := { program := "ytnclkamgdcaboaa", sum := "d3f59b8cc361da1e131611f35e39182d005b468892d98ec24f8bdd0a65bd7a4d", func := "loop.example/g00507/laws.FnExactGrantedSecret", spec := "fnExactGrantedSecret", apart := false, narrowed := true }
def FnExactGrantedSecretUptoSaid : Prop := fnExactGrantedSecretUptoRow.holds Try.pinned (OpenSpec.upto fnExactGrantedSecretSpec)

/-- 'laws.FnExactNarrowGrant', WHERE WHAT IT READS IS OF BULK AT MOST 1048576: true; the input reads as it did. -/
def fnExactNarrowGrantUptoRow : OpenClaim := { program := "ytnclkamgdcaboaa", sum := "d3f59b8cc361da1e131611f35e39182d005b468892d98ec24f8bdd0a65bd7a4d", func := "loop.example/g00507/laws.FnExactNarrowGrant", spec := "fnExactNarrowGrant", unfollowed := true, recurses := true, apart := false, narrowed := true }
def FnExactNarrowGrantUptoSaid : Prop := fnExactNarrowGrantUptoRow.holds Try.pinned (OpenSpec.upto fnExactNarrowGrantSpec)

/-- 'laws.FnExactOpenContent', WHERE WHAT IT READS IS OF BULK AT MOST 1048576: true; the input reads as it did. -/
def fnExactOpenContentUptoRow : OpenClaim := { program := "ytnclkamgdcaboaa", sum := "d3f59b8cc361da1e131611f35e39182d005b468892d98ec24f8bdd0a65bd7a4d", func := "loop.example/g00507/laws.FnExactOpenContent", spec := "fnExactOpenContent", unfollowed := true, recurses := true, apart := false, narrowed := true }
def FnExactOpenContentUptoSaid : Prop := fnExactOpenContentUptoRow.holds Try.pinned (OpenSpec.upto fnExactOpenContentSpec)

end Rows
end Go.Proofs.Ytnclkamgdcaboaa
