/-
  DERIVED. GIVEN WITH THE SEED: THE CARDS: each row of YtgcnbfplihjelaaGreatDoorRows.lean that lists a variable, with what it lists TIED to the program's text (the seventh form; the later family's looks); each row that meets fmt, with fmt's text TOLD by the authors' own Lean function (tested against real Go, not proved from fmt's source: count such statements apart). THE CARD IS WHAT COUNTS. Prove the row's statement (the work); the ties are given (YtgcnbfplihjelaaGreatDoorTie.lean); close each card by the builder's one call (the guide's Derived/Test/ToyasCard.lean, 'card_holds'). Laid BY PROGRAM, IN A SANDBOX (cutbox-door.mjs). By AI agents, Wed Nov 11 2026. No macro, syntax, notation, axiom, sorry.
-/
import Derived.Test.YtgcnbfplihjelaaGreatDoorRows
import GoSem.ClaimSeven
namespace Go.Proofs.YtgcnbfplihjelaaGreatDoor
namespace Rows

/-- THE TIED CARD OF 'laws.FnReaders'. -/
def fnReadersCard : Claim7 := { stood := { row := fnReadersRow, standIns := [], harness := (true, "8694d95771ef9e2d3f1b1342000c1903671e22486b51770c4ddf3318e6f55675"), looks := false }, kinds := [], alts := [], laidByText := true, laidKinds := [.data, .data, .data], laidTests := true, laidLooks := .later }
def FnReadersCardSaid : Prop := Claim7.holds Tryz.pinned (.plain (OpenSpec.ofChange fnReadersSpec)) fnReadersCard

/-- THE TIED CARD OF 'laws.FnCasts'. -/
def fnCastsCard : Claim7 := { stood := { row := fnCastsRow, standIns := [], harness := (true, "8694d95771ef9e2d3f1b1342000c1903671e22486b51770c4ddf3318e6f55675"), looks := false }, kinds := [], alts := [], laidByText := true, laidKinds := [.data, .data, .data], laidTests := true, laidLooks := .later }
def FnCastsCardSaid : Prop := Claim7.holds Tryz.pinned (.plain (OpenSpec.ofChange fnCastsSpec)) fnCastsCard

/-- THE TIED CARD OF 'laws.FnObjects'. -/
def fnObjectsCard : Claim7 := { stood := { row := fnObjectsRow, standIns := [], harness := (true, "8694d95771ef9e2d3f1b1342000c1903671e22486b51770c4ddf3318e6f55675"), looks := false }, kinds := [], alts := [], laidByText := true, laidKinds := [.data, .data, .data], laidTests := true, laidLooks := .later }
def FnObjectsCardSaid : Prop := Claim7.holds Tryz.pinned (.plain (OpenSpec.ofChange fnObjectsSpec)) fnObjectsCard

/-- THE SECOND FORM's CARD OF 'laws.FnReaders'. -/
def fnReadersUptoCard : Claim7 := { stood := { row := fnReadersUptoRow, standIns := [], harness := (true, "8694d95771ef9e2d3f1b1342000c1903671e22486b51770c4ddf3318e6f55675"), looks := false }, kinds := [], alts := [], laidByText := true, laidKinds := [.data, .data, .data], laidTests := true, laidLooks := .later }
def FnReadersUptoCardSaid : Prop := Claim7.holds Tryz.pinned (.plain (OpenSpec.upto fnReadersSpec)) fnReadersUptoCard

/-- THE SECOND FORM's CARD OF 'laws.FnCasts'. -/
def fnCastsUptoCard : Claim7 := { stood := { row := fnCastsUptoRow, standIns := [], harness := (true, "8694d95771ef9e2d3f1b1342000c1903671e22486b51770c4ddf3318e6f55675"), looks := false }, kinds := [], alts := [], laidByText := true, laidKinds := [.data, .data, .data], laidTests := true, laidLooks := .later }
def FnCastsUptoCardSaid : Prop := Claim7.holds Tryz.pinned (.plain (OpenSpec.upto fnCastsSpec)) fnCastsUptoCard

/-- THE SECOND FORM's CARD OF 'laws.FnObjects'. -/
def fnObjectsUptoCard : Claim7 := { stood := { row := fnObjectsUptoRow, standIns := [], harness := (true, "8694d95771ef9e2d3f1b1342000c1903671e22486b51770c4ddf3318e6f55675"), looks := false }, kinds := [], alts := [], laidByText := true, laidKinds := [.data, .data, .data], laidTests := true, laidLooks := .later }
def FnObjectsUptoCardSaid : Prop := Claim7.holds Tryz.pinned (.plain (OpenSpec.upto fnObjectsSpec)) fnObjectsUptoCard
end Rows
end Go.Proofs.YtgcnbfplihjelaaGreatDoor
