/-
  DERIVED. GIVEN WITH THE SEED: THE CARDS: each row of YtckjlakfnpapgaaGreatDoorRows.lean that lists a variable, with what it lists TIED to the program's text (the seventh form; the later family's looks); each row that meets fmt, with fmt's text TOLD by the authors' own Lean function (tested against real Go, not proved from fmt's source: count such statements apart). THE CARD IS WHAT COUNTS. Prove the row's statement (the work); the ties are given (YtckjlakfnpapgaaGreatDoorTie.lean); close each card by the builder's one call (the guide's Derived/Test/ToyasCard.lean, 'card_holds'). Laid BY PROGRAM, IN A SANDBOX (cutbox-door.mjs). By AI agents, Wed Nov 11 2026. No macro, syntax, notation, axiom, sorry.
-/
import Derived.Test.YtckjlakfnpapgaaGreatDoorRows
import GoSem.ClaimSeven
namespace Go.Proofs.YtckjlakfnpapgaaGreatDoor
namespace Rows

/-- THE TIED CARD OF 'laws.FnExactPublishSegments'. -/
def fnExactPublishSegmentsCard : Claim7 := { stood := { row := fnExactPublishSegmentsRow, standIns := [], harness := (true, "e5641dbf83f053d4f00233dfaec86196f6f0bce940dd560c3195ab341326af53"), looks := false }, kinds := [], alts := [], laidByText := true, laidKinds := [.data, .data, .data], laidTests := true, laidLooks := .later }
def FnExactPublishSegmentsCardSaid : Prop := Claim7.holds Tryz.pinned (.plain (OpenSpec.ofChange fnExactPublishSegmentsSpec)) fnExactPublishSegmentsCard

/-- THE SECOND FORM's CARD OF 'laws.FnExactPublishSegments'. -/
def fnExactPublishSegmentsUptoCard : Claim7 := { stood := { row := fnExactPublishSegmentsUptoRow, standIns := [], harness := (true, "e5641dbf83f053d4f00233dfaec86196f6f0bce940dd560c3195ab341326af53"), looks := false }, kinds := [], alts := [], laidByText := true, laidKinds := [.data, .data, .data], laidTests := true, laidLooks := .later }
def FnExactPublishSegmentsUptoCardSaid : Prop := Claim7.holds Tryz.pinned (.plain (OpenSpec.upto fnExactPublishSegmentsSpec)) fnExactPublishSegmentsUptoCard
end Rows
end Go.Proofs.YtckjlakfnpapgaaGreatDoor
