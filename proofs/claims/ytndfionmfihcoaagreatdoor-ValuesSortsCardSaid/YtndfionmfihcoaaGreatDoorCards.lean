/-
  DERIVED. GIVEN WITH THE SEED: THE CARDS: each row of YtndfionmfihcoaaGreatDoorRows.lean that lists a variable, with what it lists TIED to the program's text (the seventh form; the later family's looks); each row that meets fmt, with fmt's text TOLD by the authors' own Lean function (tested against real Go, not proved from fmt's source: count such statements apart). THE CARD IS WHAT COUNTS. Prove the row's statement (the work); the ties are given (YtndfionmfihcoaaGreatDoorTie.lean); close each card by the builder's one call (the guide's Derived/Test/ToyasCard.lean, 'card_holds'). Laid BY PROGRAM, IN A SANDBOX (cutbox-door.mjs). By AI agents, Wed Nov 11 2026. No macro, syntax, notation, axiom, sorry.
-/
import Derived.Test.YtndfionmfihcoaaGreatDoorRows
import GoSem.ClaimSeven
namespace Go.Proofs.YtndfionmfihcoaaGreatDoor
namespace Rows

/-- THE TIED CARD OF 'refuterlaw10.ValuesSorts'. -/
def valuesSortsCard : Claim7 := { stood := { row := valuesSortsRow, standIns := [], harness := (true, "5e5d70571c141c0026ae7addf47d10090ff2417f4fea5935b2f1cc7b54d69377"), looks := true }, kinds := [], alts := [], laidByText := true, laidKinds := [.data, .data, .data, .sentinel, .sentinel], laidTests := true, laidLooks := .later }
def ValuesSortsCardSaid : Prop := Claim7.holds Tryz.pinned (.plain (OpenSpec.ofChange valuesSortsSpec)) valuesSortsCard

/-- THE TIED CARD OF 'refuterlaw10.ValuesHashes'. -/
def valuesHashesCard : Claim7 := { stood := { row := valuesHashesRow, standIns := [], harness := (true, "5e5d70571c141c0026ae7addf47d10090ff2417f4fea5935b2f1cc7b54d69377"), looks := true }, kinds := [], alts := [], laidByText := true, laidKinds := [.data, .data, .data, .sentinel, .sentinel], laidTests := true, laidLooks := .later }
def ValuesHashesCardSaid : Prop := Claim7.holds Tryz.pinned (.plain (OpenSpec.ofChange valuesHashesSpec)) valuesHashesCard

/-- THE SECOND FORM's CARD OF 'refuterlaw10.ValuesSorts'. -/
def valuesSortsUptoCard : Claim7 := { stood := { row := valuesSortsUptoRow, standIns := [], harness := (true, "5e5d70571c141c0026ae7addf47d10090ff2417f4fea5935b2f1cc7b54d69377"), looks := true }, kinds := [], alts := [], laidByText := true, laidKinds := [.data, .data, .data, .sentinel, .sentinel], laidTests := true, laidLooks := .later }
def ValuesSortsUptoCardSaid : Prop := Claim7.holds Tryz.pinned (.plain (OpenSpec.upto valuesSortsSpec)) valuesSortsUptoCard

/-- THE SECOND FORM's CARD OF 'refuterlaw10.ValuesHashes'. -/
def valuesHashesUptoCard : Claim7 := { stood := { row := valuesHashesUptoRow, standIns := [], harness := (true, "5e5d70571c141c0026ae7addf47d10090ff2417f4fea5935b2f1cc7b54d69377"), looks := true }, kinds := [], alts := [], laidByText := true, laidKinds := [.data, .data, .data, .sentinel, .sentinel], laidTests := true, laidLooks := .later }
def ValuesHashesUptoCardSaid : Prop := Claim7.holds Tryz.pinned (.plain (OpenSpec.upto valuesHashesSpec)) valuesHashesUptoCard
end Rows
end Go.Proofs.YtndfionmfihcoaaGreatDoor
