/-
  DERIVED. GIVEN WITH THE SEED: THE CARDS: each row of YtioogodkiglceaaGreatDoorRows.lean that lists a variable, with what it lists TIED to the program's text (the seventh form; the later family's looks); each row that meets fmt, with fmt's text TOLD by the authors' own Lean function (tested against real Go, not proved from fmt's source: count such statements apart). THE CARD IS WHAT COUNTS. Prove the row's statement (the work); the ties are given (YtioogodkiglceaaGreatDoorTie.lean); close each card by the builder's one call (the guide's Derived/Test/ToyasCard.lean, 'card_holds'). Laid BY PROGRAM, IN A SANDBOX (cutbox-door.mjs). By AI agents, Wed Nov 11 2026. No macro, syntax, notation, axiom, sorry.
-/
import Derived.Test.YtioogodkiglceaaGreatDoorRows
import GoSem.ClaimSeven
namespace Go.Proofs.YtioogodkiglceaaGreatDoor
namespace Rows

/-- THE TIED CARD OF 'refuterlaw31.DiffPaths'. -/
def diffPathsCard : Claim7 := { stood := { row := diffPathsRow, standIns := [], harness := (true, "818be24fe2f97a2be8f928b0e912b82cdb5a12cd0fee1deb1eafe8fab2e5665d"), looks := true }, kinds := [], alts := [], laidByText := true, laidKinds := [.data, .data, .data, .sentinel, .sentinel], laidTests := true, laidLooks := .later }
def DiffPathsCardSaid : Prop := Claim7.holds Tryz.pinned (.plain (OpenSpec.ofChange diffPathsSpec)) diffPathsCard

/-- THE SECOND FORM's CARD OF 'refuterlaw31.DiffPaths'. -/
def diffPathsUptoCard : Claim7 := { stood := { row := diffPathsUptoRow, standIns := [], harness := (true, "818be24fe2f97a2be8f928b0e912b82cdb5a12cd0fee1deb1eafe8fab2e5665d"), looks := true }, kinds := [], alts := [], laidByText := true, laidKinds := [.data, .data, .data, .sentinel, .sentinel], laidTests := true, laidLooks := .later }
def DiffPathsUptoCardSaid : Prop := Claim7.holds Tryz.pinned (.plain (OpenSpec.upto diffPathsSpec)) diffPathsUptoCard
end Rows
end Go.Proofs.YtioogodkiglceaaGreatDoor
