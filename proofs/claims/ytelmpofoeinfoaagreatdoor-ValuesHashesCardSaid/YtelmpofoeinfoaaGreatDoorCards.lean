/-
  DERIVED. GIVEN WITH THE SEED: THE CARDS: each row of YtelmpofoeinfoaaGreatDoorRows.lean that lists a variable, with what it lists TIED to the program's text (the seventh form; the later family's looks); each row that meets fmt, with fmt's text TOLD by the authors' own Lean function (tested against real Go, not proved from fmt's source: count such statements apart). THE CARD IS WHAT COUNTS. Prove the row's statement (the work); the ties are given (YtelmpofoeinfoaaGreatDoorTie.lean); close each card by the builder's one call (the guide's Derived/Test/ToyasCard.lean, 'card_holds'). Laid BY PROGRAM, IN A SANDBOX (cutbox-door.mjs). By AI agents, Wed Nov 11 2026. No macro, syntax, notation, axiom, sorry.
-/
import Derived.Test.YtelmpofoeinfoaaGreatDoorRows
import GoSem.ClaimSeven
namespace Go.Proofs.YtelmpofoeinfoaaGreatDoor
namespace Rows

/-- THE TIED CARD OF 'refuterlaw17.FilterValues'. -/
def filterValuesCard : Claim7 := { stood := { row := filterValuesRow, standIns := [], harness := (true, "b7fe96ad58c7d8283a23b9f1d62a5606a21a3331540714ed011ae8a69c6b6d06"), looks := true }, kinds := [], alts := [], laidByText := true, laidKinds := [.data, .data, .data], laidTests := true, laidLooks := .later }
def FilterValuesCardSaid : Prop := Claim7.holds Tryz.pinned (.plain (OpenSpec.ofChange filterValuesSpec)) filterValuesCard

/-- THE TIED CARD OF 'refuterlaw10.ValuesHashes'. -/
def valuesHashesCard : Claim7 := { stood := { row := valuesHashesRow, standIns := [], harness := (true, "b7fe96ad58c7d8283a23b9f1d62a5606a21a3331540714ed011ae8a69c6b6d06"), looks := true }, kinds := [], alts := [], laidByText := true, laidKinds := [.data, .data, .data, .sentinel, .sentinel], laidTests := true, laidLooks := .later }
def ValuesHashesCardSaid : Prop := Claim7.holds Tryz.pinned (.plain (OpenSpec.ofChange valuesHashesSpec)) valuesHashesCard

/-- THE SECOND FORM's CARD OF 'refuterlaw17.FilterValues'. -/
def filterValuesUptoCard : Claim7 := { stood := { row := filterValuesUptoRow, standIns := [], harness := (true, "b7fe96ad58c7d8283a23b9f1d62a5606a21a3331540714ed011ae8a69c6b6d06"), looks := true }, kinds := [], alts := [], laidByText := true, laidKinds := [.data, .data, .data], laidTests := true, laidLooks := .later }
def FilterValuesUptoCardSaid : Prop := Claim7.holds Tryz.pinned (.plain (OpenSpec.upto filterValuesSpec)) filterValuesUptoCard

/-- THE SECOND FORM's CARD OF 'refuterlaw10.ValuesHashes'. -/
def valuesHashesUptoCard : Claim7 := { stood := { row := valuesHashesUptoRow, standIns := [], harness := (true, "b7fe96ad58c7d8283a23b9f1d62a5606a21a3331540714ed011ae8a69c6b6d06"), looks := true }, kinds := [], alts := [], laidByText := true, laidKinds := [.data, .data, .data, .sentinel, .sentinel], laidTests := true, laidLooks := .later }
def ValuesHashesUptoCardSaid : Prop := Claim7.holds Tryz.pinned (.plain (OpenSpec.upto valuesHashesSpec)) valuesHashesUptoCard
end Rows
end Go.Proofs.YtelmpofoeinfoaaGreatDoor
