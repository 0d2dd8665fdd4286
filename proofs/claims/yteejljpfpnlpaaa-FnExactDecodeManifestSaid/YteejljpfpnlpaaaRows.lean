/-
  No cell of these rows narrows 'for every input' (looked for: loops, veiled, ifaces, maps, wideKeys, modest, calm, conditions, laid).
  DERIVED. THE GIVEN ROWS OF THIS SEAT. 11 by the template 'for every input the law returns true; each argument reads behind the call as it read before'; 0 by the template 'total and deterministic' (their statements: YteejljpfpnlpaaaTotals.lean).
  GIVEN WITH THE SEED: the statements are not yours to turn. If you find one false, say at which input.
  Laid BY PROGRAM, IN A SANDBOX (cutbox-rows.mjs): the forced cells as the released guide's own fill.sh prints them over the translation c37cd00e12791a3f… (all of the seat's roots in one cut). By AI agents, Wed Nov 11 2026. No macro, syntax, notation, axiom, sorry.
-/
import Derived.Test.YteejljpfpnlpaaaChecked
import GoSem.Claim
import GoSem.ClaimJoined
import GoSem.ClaimMapViews
import Derived.JoinedTies
import Derived.KernelRfl
namespace Go.Proofs.Yteejljpfpnlpaaa
/- THE CELL 'sum', in the pinned program and in every row, IS THE sha256 OF THE DUMP (.gsa) THAT YteejljpfpnlpaaaProg.lean LOADS. Nothing in Lean hashes anything: it is a label: what it is worth is what the hold of that sum in a sandbox is worth. -/
noncomputable def Try.pinned : Pinned := { name := "yteejljpfpnlpaaa", sum := "c37cd00e12791a3fadc119324c077b34b688465db7e35a6a811a05adf6fa9bed", checked := Try.checked }
namespace Rows
def none {H : Type} : Left H := { results := [], args := [] }

/-- 'laws.FnExactValidManifest': WHATEVER THE INPUT: true; the input reads as it did. -/
def fnExactValidManifestSpec : ChangeSpec := { name := "fnExactValidManifest", fn := fun _ => fun
  | [d] => { results := [.lit (.bool true)], args := [d] }
  | _ => none }
def fnExactValidManifestRow : OpenClaim := { program := "yteejljpfpnlpaaa", sum := "c37cd00e12791a3fadc119324c077b34b688465db7e35a6a811a05adf6fa9bed", func := "loop.example/g00507/laws.FnExactValidManifest", spec := "fnExactValidManifest", unfollowed := true, recurses := true, apart := false }
def FnExactValidManifestSaid : Prop := fnExactValidManifestRow.holds Try.pinned (OpenSpec.ofChange fnExactValidManifestSpec)

/-- ITS FALSE NEIGHBOUR: 'it returns false'. Refute it at one input. -/
def fnExactValidManifestWrong : ChangeSpec := { name := "fnExactValidManifest", fn := fun _ => fun
  | [d] => { results := [.lit (.bool false)], args := [d] }
  | _ => none }
def FnExactValidManifestWrongFalsely : Prop := fnExactValidManifestRow.holds Try.pinned (OpenSpec.ofChange fnExactValidManifestWrong)

/-- 'laws.FnExactMakeManifest': WHATEVER THE INPUT: true; the input reads as it did. -/
def fnExactMakeManifestSpec : ChangeSpec := { name := "fnExactMakeManifest", fn := fun _ => fun
  | [d1, d2] => { results := [.lit (.bool true)], args := [d1, d2] }
  | _ => none }
def fnExactMakeManifestRow : OpenClaim := { program := "yteejljpfpnlpaaa", sum := "c37cd00e12791a3fadc119324c077b34b688465db7e35a6a811a05adf6fa9bed", func := "loop.example/g00507/laws.FnExactMakeManifest", spec := "fnExactMakeManifest", apart := false }
def FnExactMakeManifestSaid : Prop := fnExactMakeManifestRow.holds Try.pinned (OpenSpec.ofChange fnExactMakeManifestSpec)

/-- ITS FALSE NEIGHBOUR: 'it returns false'. Refute it at one input. -/
def fnExactMakeManifestWrong : ChangeSpec := { name := "fnExactMakeManifest", fn := fun _ => fun
  | [d1, d2] => { results := [.lit (.bool false)], args := [d1, d2] }
  | _ => none }
def FnExactMakeManifestWrongFalsely : Prop := fnExactMakeManifestRow.holds Try.pinned (OpenSpec.ofChange fnExactMakeManifestWrong)

/-- 'laws.FnExactVerifySegment': WHATEVER THE INPUT: true; the input reads as it did. -/
def fnExactVerifySegmentSpec : ChangeSpec := { name := "fnExactVerifySegment", fn := fun _ => fun
  | [d1, d2, d3] => { results := [.lit (.bool true)], args := [d1, d2, d3] }
  | _ => none }
def fnExactVerifySegmentRow : OpenClaim := { program := "yteejljpfpnlpaaa", sum := "c37cd00e12791a3fadc119324c077b34b688465db7e35a6a811a05adf6fa9bed", func := "loop.example/g00507/laws.FnExactVerifySegment", spec := "fnExactVerifySegment", unfollowed := true, recurses := true, apart := false }
def FnExactVerifySegmentSaid : Prop := fnExactVerifySegmentRow.holds Try.pinned (OpenSpec.ofChange fnExactVerifySegmentSpec)

/-- ITS FALSE NEIGHBOUR: 'it returns false'. Refute it at one input. -/
def fnExactVerifySegmentWrong : ChangeSpec := { name := "fnExactVerifySegment", fn := fun _ => fun
  | [d1, d2, d3] => { results := [.lit (.bool false)], args := [d1, d2, d3] }
  | _ => none }
def FnExactVerifySegmentWrongFalsely : Prop := fnExactVerifySegmentRow.holds Try.pinned (OpenSpec.ofChange fnExactVerifySegmentWrong)

/-- 'laws.FnExactSegmentAt': WHATEVER THE INPUT: true; the input reads as it did. -/
def fnExactSegmentAtSpec : ChangeSpec := { name := "fnExactSegmentAt", fn := fun _ => fun
  | [d1, d2, d3] => { results := [.lit (.bool true)], args := [d1, d2, d3] }
  | _ => none }
def fnExactSegmentAtRow : OpenClaim := { program := "yteejljpfpnlpaaa", sum := "c37cd00e12791a3fadc119324c077b34b688465db7e35a6a811a05adf6fa9bed", func := "loop.example/g00507/laws.FnExactSegmentAt", spec := "fnExactSegmentAt", unfollowed := true, recurses := true, apart := false }
def FnExactSegmentAtSaid : Prop := fnExactSegmentAtRow.holds Try.pinned (OpenSpec.ofChange fnExactSegmentAtSpec)

/-- ITS FALSE NEIGHBOUR: 'it returns false'. Refute it at one input. -/
def fnExactSegmentAtWrong : ChangeSpec := { name := "fnExactSegmentAt", fn := fun _ => fun
  | [d1, d2, d3] => { results := [.lit (.bool false)], args := [d1, d2, d3] }
  | _ => none }
def FnExactSegmentAtWrongFalsely : Prop := fnExactSegmentAtRow.holds Try.pinned (OpenSpec.ofChange fnExactSegmentAtWrong)

/-- 'laws.FnExactManifestName': WHATEVER THE INPUT: true; the input reads as it did. -/
def fnExactManifestNameSpec : ChangeSpec := { name := "fnExactManifestName", fn := fun _ => fun
  | [d] => { results := [.lit (.bool true)], args := [d] }
  | _ => none }
def fnExactManifestNameRow : OpenClaim := { program := "yteejljpfpnlpaaa", sum := "c37cd00e12791a3fadc119324c077b34b688465db7e35a6a811a05adf6fa9bed", func := "loop.example/g00507/laws.FnExactManifestName", spec := "fnExactManifestName", unfollowed := true, recurses := true, apart := false }
def FnExactManifestNameSaid : Prop := fnExactManifestNameRow.holds Try.pinned (OpenSpec.ofChange fnExactManifestNameSpec)

/-- ITS FALSE NEIGHBOUR: 'it returns false'. Refute it at one input. -/
def fnExactManifestNameWrong : ChangeSpec := { name := "fnExactManifestName", fn := fun _ => fun
  | [d] => { results := [.lit (.bool false)], args := [d] }
  | _ => none }
def FnExactManifestNameWrongFalsely : Prop := fnExactManifestNameRow.holds Try.pinned (OpenSpec.ofChange fnExactManifestNameWrong)

/-- 'laws.FnExactEncodeManifest': WHATEVER THE INPUT: true; the input reads as it did. -/
def fnExactEncodeManifestSpec : ChangeSpec := { name := "fnExactEncodeManifest", fn := fun _ => fun
  | [d] => { results := [.lit (.bool true)], args := [d] }
  | _ => none }
def fnExactEncodeManifestRow : OpenClaim := { program := "yteejljpfpnlpaaa", sum := "c37cd00e12791a3fadc119324c077b34b688465db7e35a6a811a05adf6fa9bed", func := "loop.example/g00507/laws.FnExactEncodeManifest", spec := "fnExactEncodeManifest", unfollowed := true, recurses := true, apart := false }
def FnExactEncodeManifestSaid : Prop := fnExactEncodeManifestRow.holds Try.pinned (OpenSpec.ofChange fnExactEncodeManifestSpec)

/-- ITS FALSE NEIGHBOUR: 'it returns false'. Refute it at one input. -/
def fnExactEncodeManifestWrong : ChangeSpec := { name := "fnExactEncodeManifest", fn := fun _ => fun
  | [d] => { results := [.lit (.bool false)], args := [d] }
  | _ => none }
def FnExactEncodeManifestWrongFalsely : Prop := fnExactEncodeManifestRow.holds Try.pinned (OpenSpec.ofChange fnExactEncodeManifestWrong)

/-- 'laws.FnExactDecodeManifest': WHATEVER THE INPUT: true; the input reads as it did. -/
def fnExactDecodeManifestSpec : ChangeSpec := { name := "fnExactDecodeManifest", fn := fun _ => fun
  | [d] => { results := [.lit (.bool true)], args := [d] }
  | _ => none }
def fnExactDecodeManifestRow : OpenClaim := { program := "yteejljpfpnlpaaa", sum := "c37cd00e12791a3fadc119324c077b34b688465db7e35a6a811a05adf6fa9bed", func := "loop.example/g00507/laws.FnExactDecodeManifest", spec := "fnExactDecodeManifest", unfollowed := true, recurses := true, apart := false }
def FnExactDecodeManifestSaid : Prop := fnExactDecodeManifestRow.holds Try.pinned (OpenSpec.ofChange fnExactDecodeManifestSpec)

/-- ITS FALSE NEIGHBOUR: 'it returns false'. Refute it at one input. -/
def fnExactDecodeManifestWrong : ChangeSpec := { name := "fnExactDecodeManifest", fn := fun _ => fun
  | [d] => { results := [.lit (.bool false)], args := [d] }
  | _ => none }
def FnExactDecodeManifestWrongFalsely : Prop := fnExactDecodeManifestRow.holds Try.pinned (OpenSpec.ofChange fnExactDecodeManifestWrong)

/-- 'laws.FnExactReassemble': WHATEVER THE INPUT: true; the input reads as it did. -/
def fnExactReassembleSpec : ChangeSpec := { name := "fnExactReassemble", fn := fun _ => fun
  | [d] => { results := [.lit (.bool true)], args := [d] }
  | _ => none }
def fnExactReassembleRow : OpenClaim := { program := "yteejljpfpnlpaaa", sum := "c37cd00e12791a3fadc119324c077b34b688465db7e35a6a811a05adf6fa9bed", func := "loop.example/g00507/laws.FnExactReassemble", spec := "fnExactReassemble", apart := false }
def FnExactReassembleSaid : Prop := fnExactReassembleRow.holds Try.pinned (OpenSpec.ofChange fnExactReassembleSpec)

/-- ITS FALSE NEIGHBOUR: 'it returns false'. Refute it at one input. -/
def fnExactReassembleWrong : ChangeSpec := { name := "fnExactReassemble", fn := fun _ => fun
  | [d] => { results := [.lit (.bool false)], args := [d] }
  | _ => none }
def FnExactReassembleWrongFalsely : Prop := fnExactReassembleRow.holds Try.pinned (OpenSpec.ofChange fnExactReassembleWrong)

/-- 'laws.FnExactNextSegments': WHATEVER THE INPUT: true; the input reads as it did. -/
def fnExactNextSegmentsSpec : ChangeSpec := { name := "fnExactNextSegments", fn := fun _ => fun
  | [d] => { results := [.lit (.bool true)], args := [d] }
  | _ => none }
def fnExactNextSegmentsRow : OpenClaim := { program := "yteejljpfpnlpaaa", sum := "c37cd00e12791a3fadc119324c077b34b688465db7e35a6a811a05adf6fa9bed", func := "loop.example/g00507/laws.FnExactNextSegments", spec := "fnExactNextSegments", apart := false }
def FnExactNextSegmentsSaid : Prop := fnExactNextSegmentsRow.holds Try.pinned (OpenSpec.ofChange fnExactNextSegmentsSpec)

/-- ITS FALSE NEIGHBOUR: 'it returns false'. Refute it at one input. -/
def fnExactNextSegmentsWrong : ChangeSpec := { name := "fnExactNextSegments", fn := fun _ => fun
  | [d] => { results := [.lit (.bool false)], args := [d] }
  | _ => none }
def FnExactNextSegmentsWrongFalsely : Prop := fnExactNextSegmentsRow.holds Try.pinned (OpenSpec.ofChange fnExactNextSegmentsWrong)

/-- 'laws.FnExactNewFetcher': WHATEVER THE INPUT: true; the input reads as it did. -/
def fnExactNewFetcherSpec : ChangeSpec := { name := "fnExactNewFetcher", fn := fun _ => fun
  | [d] => { results := [.lit (.bool true)], args := [d] }
  | _ => none }
def fnExactNewFetcherRow : OpenClaim := { program := "yteejljpfpnlpaaa", sum := "c37cd00e12791a3fadc119324c077b34b688465db7e35a6a811a05adf6fa9bed", func := "loop.example/g00507/laws.FnExactNewFetcher", spec := "fnExactNewFetcher", unfollowed := true, recurses := true, apart := false }
def FnExactNewFetcherSaid : Prop := fnExactNewFetcherRow.holds Try.pinned (OpenSpec.ofChange fnExactNewFetcherSpec)

/-- ITS FALSE NEIGHBOUR: 'it returns false'. Refute it at one input. -/
def fnExactNewFetcherWrong : ChangeSpec := { name := "fnExactNewFetcher", fn := fun _ => fun
  | [d] => { results := [.lit (.bool false)], args := [d] }
  | _ => none }
def FnExactNewFetcherWrongFalsely : Prop := fnExactNewFetcherRow.holds Try.pinned (OpenSpec.ofChange fnExactNewFetcherWrong)

/-- 'laws.FnExactValidFetcher': WHATEVER THE INPUT: true; the input reads as it did. -/
def fnExactValidFetcherSpec : ChangeSpec := { name := "fnExactValidFetcher", fn := fun _ => fun
  | [d] => { results := [.lit (.bool true)], args := [d] }
  | _ => none }
def fnExactValidFetcherRow : OpenClaim := { program := "yteejljpfpnlpaaa", sum := "c37cd00e12791a3fadc119324c077b34b688465db7e35a6a811a05adf6fa9bed", func := "loop.example/g00507/laws.FnExactValidFetcher", spec := "fnExactValidFetcher", unfollowed := true, recurses := true, apart := false }
def FnExactValidFetcherSaid : Prop := fnExactValidFetcherRow.holds Try.pinned (OpenSpec.ofChange fnExactValidFetcherSpec)

/-- ITS FALSE NEIGHBOUR: 'it returns false'. Refute it at one input. -/
def fnExactValidFetcherWrong : ChangeSpec := { name := "fnExactValidFetcher", fn := fun _ => fun
  | [d] => { results := [.lit (.bool false)], args := [d] }
  | _ => none }
def FnExactValidFetcherWrongFalsely : Prop := fnExactValidFetcherRow.holds Try.pinned (OpenSpec.ofChange fnExactValidFetcherWrong)

/- THE SECOND FORM. 'bulk': how many values and letters a reading holds, each counted each time it is reached (what is shared counts as often as it is met; a slice's spare places count too). A statement '..UptoSaid' is the law's where the arguments, and the package variables that the reading takes, are together of bulk at most 1048576: NARROWER than '..Said'. Prove '..Said' where nothing that the law and all that it calls make is longer than what came in: it says more and counts as full. Else prove '..UptoSaid'. A law counts once. -/
mutual
def uptoBulk {H : Type} : DataW H → Nat
  | .lit (.string bytes) => bytes.length + 1
  | .lit _ => 1
  | .nil => 1
  | .ptr d => uptoBulk d + 1
  | .slice elems spare => uptoBulkAll elems + uptoBulkAll spare + 1
  | .agg parts => uptoBulkAll parts + 1
  | .iface _ d => uptoBulk d + 1
  | .map entries => uptoBulkEntries entries + 1
  | .held _ => 1
def uptoBulkAll {H : Type} : List (DataW H) → Nat
  | [] => 0
  | d :: r => uptoBulk d + uptoBulkAll r
def uptoBulkEntries {H : Type} : List (Lit × DataW H) → Nat
  | [] => 0
  | x :: r => uptoBulkEntry x + uptoBulkEntries r
def uptoBulkEntry {H : Type} : Lit × DataW H → Nat
  | (.string bytes, d) => bytes.length + uptoBulk d + 1
  | (_, d) => uptoBulk d + 1
 end
def uptoSmall : (H : Type) → List (DataW H) → Bool := fun _ ds => decide (uptoBulkAll ds ≤ 1048576)
def OpenSpec.upto (s : _root_.Go.ChangeSpec) : _root_.Go.OpenSpec := { _root_.Go.OpenSpec.ofChange s with cond := some uptoSmall }

/-- 'laws.FnExactValidManifest', WHERE WHAT IT READS IS OF BULK AT MOST 1048576: true; the input reads as it did. -/
def fnExactValidManifestUptoRow : OpenClaim := { program := "yteejljpfpnlpaaa", sum := "c37cd00e12791a3fadc119324c077b34b688465db7e35a6a811a05adf6fa9bed", func := "loop.example/g00507/laws.FnExactValidManifest", spec := "fnExactValidManifest", unfollowed := true, recurses := true, apart := false, narrowed := true }
def FnExactValidManifestUptoSaid : Prop := fnExactValidManifestUptoRow.holds Try.pinned (OpenSpec.upto fnExactValidManifestSpec)

/-- 'laws.FnExactMakeManifest', WHERE WHAT IT READS IS OF BULK AT MOST 1048576: true; the input reads as it did. -/
def fnExactMakeManifestUptoRow : OpenClaim := { program := "yteejljpfpnlpaaa", sum := "c37cd00e12791a3fadc119324c077b34b688465db7e35a6a811a05adf6fa9bed", func := "loop.example/g00507/laws.FnExactMakeManifest", spec := "fnExactMakeManifest", apart := false, narrowed := true }
def FnExactMakeManifestUptoSaid : Prop := fnExactMakeManifestUptoRow.holds Try.pinned (OpenSpec.upto fnExactMakeManifestSpec)

/-- 'laws.FnExactVerifySegment', WHERE WHAT IT READS IS OF BULK AT MOST 1048576: true; the input reads as it did. -/
def fnExactVerifySegmentUptoRow : OpenClaim := { program := "yteejljpfpnlpaaa", sum := "c37cd00e12791a3fadc119324c077b34b688465db7e35a6a811a05adf6fa9bed", func := "loop.example/g00507/laws.FnExactVerifySegment", spec := "fnExactVerifySegment", unfollowed := true, recurses := true, apart := false, narrowed := true }
def FnExactVerifySegmentUptoSaid : Prop := fnExactVerifySegmentUptoRow.holds Try.pinned (OpenSpec.upto fnExactVerifySegmentSpec)

/-- 'laws.FnExactSegmentAt', WHERE WHAT IT READS IS OF BULK AT MOST 1048576: true; the input reads as it did. -/
def fnExactSegmentAtUptoRow : OpenClaim := { program := "yteejljpfpnlpaaa", sum := "c37cd00e12791a3fadc119324c077b34b688465db7e35a6a811a05adf6fa9bed", func := "loop.example/g00507/laws.FnExactSegmentAt", spec := "fnExactSegmentAt", unfollowed := true, recurses := true, apart := false, narrowed := true }
def FnExactSegmentAtUptoSaid : Prop := fnExactSegmentAtUptoRow.holds Try.pinned (OpenSpec.upto fnExactSegmentAtSpec)

/-- 'laws.FnExactManifestName', WHERE WHAT IT READS IS OF BULK AT MOST 1048576: true; the input reads as it did. -/
def fnExactManifestNameUptoRow : OpenClaim := { program := "yteejljpfpnlpaaa", sum := "c37cd00e12791a3fadc119324c077b34b688465db7e35a6a811a05adf6fa9bed", func := "loop.example/g00507/laws.FnExactManifestName", spec := "fnExactManifestName", unfollowed := true, recurses := true, apart := false, narrowed := true }
def FnExactManifestNameUptoSaid : Prop := fnExactManifestNameUptoRow.holds Try.pinned (OpenSpec.upto fnExactManifestNameSpec)

/-- 'laws.FnExactEncodeManifest', WHERE WHAT IT READS IS OF BULK AT MOST 1048576: true; the input reads as it did. -/
def fnExactEncodeManifestUptoRow : OpenClaim := { program := "yteejljpfpnlpaaa", sum := "c37cd00e12791a3fadc119324c077b34b688465db7e35a6a811a05adf6fa9bed", func := "loop.example/g00507/laws.FnExactEncodeManifest", spec := "fnExactEncodeManifest", unfollowed := true, recurses := true, apart := false, narrowed := true }
def FnExactEncodeManifestUptoSaid : Prop := fnExactEncodeManifestUptoRow.holds Try.pinned (OpenSpec.upto fnExactEncodeManifestSpec)

/-- 'laws.FnExactDecodeManifest', WHERE WHAT IT READS IS OF BULK AT MOST 1048576: true; the input reads as it did. -/
def fnExactDecodeManifestUptoRow : OpenClaim := { program := "yteejljpfpnlpaaa", sum := "c37cd00e12791a3fadc119324c077b34b688465db7e35a6a811a05adf6fa9bed", func := "loop.example/g00507/laws.FnExactDecodeManifest", spec := "fnExactDecodeManifest", unfollowed := true, recurses := true, apart := false, narrowed := true }
def FnExactDecodeManifestUptoSaid : Prop := fnExactDecodeManifestUptoRow.holds Try.pinned (OpenSpec.upto fnExactDecodeManifestSpec)

/-- 'laws.FnExactReassemble', WHERE WHAT IT READS IS OF BULK AT MOST 1048576: true; the input reads as it did. -/
def fnExactReassembleUptoRow : OpenClaim := { program := "yteejljpfpnlpaaa", sum := "c37cd00e12791a3fadc119324c077b34b688465db7e35a6a811a05adf6fa9bed", func := "loop.example/g00507/laws.FnExactReassemble", spec := "fnExactReassemble", apart := false, narrowed := true }
def FnExactReassembleUptoSaid : Prop := fnExactReassembleUptoRow.holds Try.pinned (OpenSpec.upto fnExactReassembleSpec)

/-- 'laws.FnExactNextSegments', WHERE WHAT IT READS IS OF BULK AT MOST 1048576: true; the input reads as it did. -/
def fnExactNextSegmentsUptoRow : OpenClaim := { program := "yteejljpfpnlpaaa", sum := "c37cd00e12791a3fadc119324c077b34b688465db7e35a6a811a05adf6fa9bed", func := "loop.example/g00507/laws.FnExactNextSegments", spec := "fnExactNextSegments", apart := false, narrowed := true }
def FnExactNextSegmentsUptoSaid : Prop := fnExactNextSegmentsUptoRow.holds Try.pinned (OpenSpec.upto fnExactNextSegmentsSpec)

/-- 'laws.FnExactNewFetcher', WHERE WHAT IT READS IS OF BULK AT MOST 1048576: true; the input reads as it did. -/
def fnExactNewFetcherUptoRow : OpenClaim := { program := "yteejljpfpnlpaaa", sum := "c37cd00e12791a3fadc119324c077b34b688465db7e35a6a811a05adf6fa9bed", func := "loop.example/g00507/laws.FnExactNewFetcher", spec := "fnExactNewFetcher", unfollowed := true, recurses := true, apart := false, narrowed := true }
def FnExactNewFetcherUptoSaid : Prop := fnExactNewFetcherUptoRow.holds Try.pinned (OpenSpec.upto fnExactNewFetcherSpec)

/-- 'laws.FnExactValidFetcher', WHERE WHAT IT READS IS OF BULK AT MOST 1048576: true; the input reads as it did. -/
def fnExactValidFetcherUptoRow : OpenClaim := { program := "yteejljpfpnlpaaa", sum := "c37cd00e12791a3fadc119324c077b34b688465db7e35a6a811a05adf6fa9bed", func := "loop.example/g00507/laws.FnExactValidFetcher", spec := "fnExactValidFetcher", unfollowed := true, recurses := true, apart := false, narrowed := true }
def FnExactValidFetcherUptoSaid : Prop := fnExactValidFetcherUptoRow.holds Try.pinned (OpenSpec.upto fnExactValidFetcherSpec)

end Rows
end Go.Proofs.Yteejljpfpnlpaaa
