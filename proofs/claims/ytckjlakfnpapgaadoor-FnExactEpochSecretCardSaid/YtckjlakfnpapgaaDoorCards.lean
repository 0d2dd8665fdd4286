/-
  DERIVED. GIVEN WITH THE SEED: THE CARDS: each row of YtckjlakfnpapgaaDoorRows.lean that lists a variable, with what it lists TIED to the program's text (the seventh form; the later family's looks); each row that meets fmt, with fmt's text TOLD by the authors' own Lean function (tested against real Go, not proved from fmt's source: count such statements apart). THE CARD IS WHAT COUNTS. Prove the row's statement (the work); the ties are given (YtckjlakfnpapgaaDoorTie.lean); close each card by the builder's one call (the guide's Derived/Test/ToyasCard.lean, 'card_holds'). Laid BY PROGRAM, IN A SANDBOX (cutbox-door.mjs). By AI agents, Wed Nov 11 2026. No macro, syntax, notation, axiom, sorry.
-/
import Derived.Test.YtckjlakfnpapgaaDoorRows
import GoSem.ClaimSeven
namespace Go.Proofs.YtckjlakfnpapgaaDoor
namespace Rows

/-- THE TIED CARD OF 'laws.FnExactSegmentName'. -/
def fnExactSegmentNameCard : Claim7 := { stood := { row := fnExactSegmentNameRow, standIns := [], harness := (true, "ddcf0f43667ab5225daa46c4e22cfe68852433f57b4b569afde9a7504057292d"), looks := false }, kinds := [], alts := [], laidByText := true, laidKinds := [.data, .data, .data], laidTests := true, laidLooks := .later }
def FnExactSegmentNameCardSaid : Prop := Claim7.holds Tryd.pinned (.plain (OpenSpec.ofChange fnExactSegmentNameSpec)) fnExactSegmentNameCard

/-- THE TIED CARD OF 'laws.FnExactEpochSecret'. -/
def fnExactEpochSecretCard : Claim7 := { stood := { row := fnExactEpochSecretRow, standIns := [], harness := (true, "ddcf0f43667ab5225daa46c4e22cfe68852433f57b4b569afde9a7504057292d"), looks := false }, kinds := [], alts := [], laidByText := true, laidKinds := [.data, .data, .data], laidTests := true, laidLooks := .later }
def FnExactEpochSecretCardSaid : Prop := Claim7.holds Tryd.pinned (.plain (OpenSpec.ofChange fnExactEpochSecretSpec)) fnExactEpochSecretCard

/-- THE SECOND FORM's CARD OF 'laws.FnExactSegmentName'. -/
def fnExactSegmentNameUptoCard : Claim7 := { stood := { row := fnExactSegmentNameUptoRow, standIns := [], harness := (true, "ddcf0f43667ab5225daa46c4e22cfe68852433f57b4b569afde9a7504057292d"), looks := false }, kinds := [], alts := [], laidByText := true, laidKinds := [.data, .data, .data], laidTests := true, laidLooks := .later }
def FnExactSegmentNameUptoCardSaid : Prop := Claim7.holds Tryd.pinned (.plain (OpenSpec.upto fnExactSegmentNameSpec)) fnExactSegmentNameUptoCard

/-- THE SECOND FORM's CARD OF 'laws.FnExactEpochSecret'. -/
def fnExactEpochSecretUptoCard : Claim7 := { stood := { row := fnExactEpochSecretUptoRow, standIns := [], harness := (true, "ddcf0f43667ab5225daa46c4e22cfe68852433f57b4b569afde9a7504057292d"), looks := false }, kinds := [], alts := [], laidByText := true, laidKinds := [.data, .data, .data], laidTests := true, laidLooks := .later }
def FnExactEpochSecretUptoCardSaid : Prop := Claim7.holds Tryd.pinned (.plain (OpenSpec.upto fnExactEpochSecretSpec)) fnExactEpochSecretUptoCard
end Rows
end Go.Proofs.YtckjlakfnpapgaaDoor
