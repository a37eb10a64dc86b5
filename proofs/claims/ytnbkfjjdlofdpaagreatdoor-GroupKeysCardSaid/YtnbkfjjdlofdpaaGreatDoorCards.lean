/-
  DERIVED. GIVEN WITH THE SEED: THE CARDS: each row of YtnbkfjjdlofdpaaGreatDoorRows.lean that lists a variable, with what it lists TIED to the program's text (the seventh form; the later family's looks); each row that meets fmt, with fmt's text TOLD by the authors' own Lean function (tested against real Go, not proved from fmt's source: count such statements apart). THE CARD IS WHAT COUNTS. Prove the row's statement (the work); the ties are given (YtnbkfjjdlofdpaaGreatDoorTie.lean); close each card by the builder's one call (the guide's Derived/Test/ToyasCard.lean, 'card_holds'). Laid BY PROGRAM, IN A SANDBOX (cutbox-door.mjs). By AI agents, Wed Nov 11 2026. No macro, syntax, notation, axiom, sorry.
-/
import Derived.Test.YtnbkfjjdlofdpaaGreatDoorRows
import GoSem.ClaimSeven
namespace Go.Proofs.YtnbkfjjdlofdpaaGreatDoor
namespace Rows

/-- THE TIED CARD OF 'refuterlaw34.GroupKeys'. -/
def groupKeysCard : Claim7 := { stood := { row := groupKeysRow, standIns := [], harness := (true, "d32fdfda6f35e8c2c826ad54ecb2e2087c5689087f045fe0d43e153ef14e5846"), looks := true }, kinds := [], alts := [], laidByText := true, laidKinds := [.data, .data, .data], laidTests := true, laidLooks := .later }
def GroupKeysCardSaid : Prop := Claim7.holds Tryz.pinned (.plain (OpenSpec.ofChange groupKeysSpec)) groupKeysCard

/-- THE TIED CARD OF 'refuterlaw34.GroupMerge'. -/
def groupMergeCard : Claim7 := { stood := { row := groupMergeRow, standIns := [], harness := (true, "d32fdfda6f35e8c2c826ad54ecb2e2087c5689087f045fe0d43e153ef14e5846"), looks := true }, kinds := [], alts := [], laidByText := true, laidKinds := [.data, .data, .data], laidTests := true, laidLooks := .later }
def GroupMergeCardSaid : Prop := Claim7.holds Tryz.pinned (.plain (OpenSpec.ofChange groupMergeSpec)) groupMergeCard

/-- THE SECOND FORM's CARD OF 'refuterlaw34.GroupKeys'. -/
def groupKeysUptoCard : Claim7 := { stood := { row := groupKeysUptoRow, standIns := [], harness := (true, "d32fdfda6f35e8c2c826ad54ecb2e2087c5689087f045fe0d43e153ef14e5846"), looks := true }, kinds := [], alts := [], laidByText := true, laidKinds := [.data, .data, .data], laidTests := true, laidLooks := .later }
def GroupKeysUptoCardSaid : Prop := Claim7.holds Tryz.pinned (.plain (OpenSpec.upto groupKeysSpec)) groupKeysUptoCard

/-- THE SECOND FORM's CARD OF 'refuterlaw34.GroupMerge'. -/
def groupMergeUptoCard : Claim7 := { stood := { row := groupMergeUptoRow, standIns := [], harness := (true, "d32fdfda6f35e8c2c826ad54ecb2e2087c5689087f045fe0d43e153ef14e5846"), looks := true }, kinds := [], alts := [], laidByText := true, laidKinds := [.data, .data, .data], laidTests := true, laidLooks := .later }
def GroupMergeUptoCardSaid : Prop := Claim7.holds Tryz.pinned (.plain (OpenSpec.upto groupMergeSpec)) groupMergeUptoCard
end Rows
end Go.Proofs.YtnbkfjjdlofdpaaGreatDoor
