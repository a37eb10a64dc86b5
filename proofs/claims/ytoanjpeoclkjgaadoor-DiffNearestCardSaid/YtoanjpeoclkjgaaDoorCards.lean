/-
  DERIVED. GIVEN WITH THE SEED: THE CARDS: each row of YtoanjpeoclkjgaaDoorRows.lean that lists a variable, with what it lists TIED to the program's text (the seventh form; the later family's looks); each row that meets fmt, with fmt's text TOLD by the authors' own Lean function (tested against real Go, not proved from fmt's source: count such statements apart). THE CARD IS WHAT COUNTS. Prove the row's statement (the work); the ties are given (YtoanjpeoclkjgaaDoorTie.lean); close each card by the builder's one call (the guide's Derived/Test/ToyasCard.lean, 'card_holds'). Laid BY PROGRAM, IN A SANDBOX (cutbox-door.mjs). By AI agents, Wed Nov 11 2026. No macro, syntax, notation, axiom, sorry.
-/
import Derived.Test.YtoanjpeoclkjgaaDoorRows
import GoSem.ClaimSeven
namespace Go.Proofs.YtoanjpeoclkjgaaDoor
namespace Rows

/-- THE TIED CARD OF 'refuterlaw31.DiffNearest'. -/
def diffNearestCard : Claim7 := { stood := { row := diffNearestRow, standIns := [], harness := (true, "f1cb6c55a84f02fef99854f972d9d18d729e6da8409866eaeca3b3a85e487ed0"), looks := true }, kinds := [], alts := [], laidByText := true, laidKinds := [.data, .data, .data, .sentinel, .sentinel], laidTests := true, laidLooks := .later }
def DiffNearestCardSaid : Prop := Claim7.holds Tryd.pinned (.plain (OpenSpec.ofChange diffNearestSpec)) diffNearestCard

/-- THE SECOND FORM's CARD OF 'refuterlaw31.DiffNearest'. -/
def diffNearestUptoCard : Claim7 := { stood := { row := diffNearestUptoRow, standIns := [], harness := (true, "f1cb6c55a84f02fef99854f972d9d18d729e6da8409866eaeca3b3a85e487ed0"), looks := true }, kinds := [], alts := [], laidByText := true, laidKinds := [.data, .data, .data, .sentinel, .sentinel], laidTests := true, laidLooks := .later }
def DiffNearestUptoCardSaid : Prop := Claim7.holds Tryd.pinned (.plain (OpenSpec.upto diffNearestSpec)) diffNearestUptoCard
end Rows
end Go.Proofs.YtoanjpeoclkjgaaDoor
