/-
  DERIVED. GIVEN WITH THE SEED: THE CARDS: each row of YtgnkoonihkfloaaGreatDoorRows.lean that lists a variable, with what it lists TIED to the program's text (the seventh form; the later family's looks); each row that meets fmt, with fmt's text TOLD by the authors' own Lean function (tested against real Go, not proved from fmt's source: count such statements apart). THE CARD IS WHAT COUNTS. Prove the row's statement (the work); the ties are given (YtgnkoonihkfloaaGreatDoorTie.lean); close each card by the builder's one call (the guide's Derived/Test/ToyasCard.lean, 'card_holds'). Laid BY PROGRAM, IN A SANDBOX (cutbox-door.mjs). By AI agents, Wed Nov 11 2026. No macro, syntax, notation, axiom, sorry.
-/
import Derived.Test.YtgnkoonihkfloaaGreatDoorRows
import GoSem.ClaimSeven
namespace Go.Proofs.YtgnkoonihkfloaaGreatDoor
namespace Rows

/-- THE TIED CARD OF 'refuterlaw31.DiffOptions'. -/
def diffOptionsCard : Claim7 := { stood := { row := diffOptionsRow, standIns := [], harness := (true, "68da3902f343b340fe54ece3d1d1e1384fe3dc75aa20369ccc0b78ef5a46252d"), looks := true }, kinds := [], alts := [], laidByText := true, laidKinds := [.data, .data, .data, .sentinel, .sentinel], laidTests := true, laidLooks := .later }
def DiffOptionsCardSaid : Prop := Claim7.holds Tryz.pinned (.plain (OpenSpec.ofChange diffOptionsSpec)) diffOptionsCard

/-- THE TIED CARD OF 'refuterlaw31.DiffMatches'. -/
def diffMatchesCard : Claim7 := { stood := { row := diffMatchesRow, standIns := [], harness := (true, "68da3902f343b340fe54ece3d1d1e1384fe3dc75aa20369ccc0b78ef5a46252d"), looks := true }, kinds := [], alts := [], laidByText := true, laidKinds := [.data, .data, .data, .sentinel, .sentinel], laidTests := true, laidLooks := .later }
def DiffMatchesCardSaid : Prop := Claim7.holds Tryz.pinned (.plain (OpenSpec.ofChange diffMatchesSpec)) diffMatchesCard

/-- THE TIED CARD OF 'refuterlaw10.ValuesOrder'. -/
def valuesOrderCard : Claim7 := { stood := { row := valuesOrderRow, standIns := [], harness := (true, "68da3902f343b340fe54ece3d1d1e1384fe3dc75aa20369ccc0b78ef5a46252d"), looks := true }, kinds := [], alts := [], laidByText := true, laidKinds := [.data, .data, .data, .sentinel, .sentinel], laidTests := true, laidLooks := .later }
def ValuesOrderCardSaid : Prop := Claim7.holds Tryz.pinned (.plain (OpenSpec.ofChange valuesOrderSpec)) valuesOrderCard

/-- THE TIED CARD OF 'refuterlaw10.ValuesValid'. -/
def valuesValidCard : Claim7 := { stood := { row := valuesValidRow, standIns := [], harness := (true, "68da3902f343b340fe54ece3d1d1e1384fe3dc75aa20369ccc0b78ef5a46252d"), looks := true }, kinds := [], alts := [], laidByText := true, laidKinds := [.data, .data, .data, .sentinel, .sentinel], laidTests := true, laidLooks := .later }
def ValuesValidCardSaid : Prop := Claim7.holds Tryz.pinned (.plain (OpenSpec.ofChange valuesValidSpec)) valuesValidCard

/-- THE TIED CARD OF 'refuterlaw10.ValuesTexts'. -/
def valuesTextsCard : Claim7 := { stood := { row := valuesTextsRow, standIns := [], harness := (true, "68da3902f343b340fe54ece3d1d1e1384fe3dc75aa20369ccc0b78ef5a46252d"), looks := true }, kinds := [], alts := [], laidByText := true, laidKinds := [.data, .data, .data, .sentinel, .sentinel], laidTests := true, laidLooks := .later }
def ValuesTextsCardSaid : Prop := Claim7.holds Tryz.pinned (.plain (OpenSpec.ofChange valuesTextsSpec)) valuesTextsCard

/-- THE TIED CARD OF 'refuterlaw10.ValuesSorts'. -/
def valuesSortsCard : Claim7 := { stood := { row := valuesSortsRow, standIns := [], harness := (true, "68da3902f343b340fe54ece3d1d1e1384fe3dc75aa20369ccc0b78ef5a46252d"), looks := true }, kinds := [], alts := [], laidByText := true, laidKinds := [.data, .data, .data, .sentinel, .sentinel], laidTests := true, laidLooks := .later }
def ValuesSortsCardSaid : Prop := Claim7.holds Tryz.pinned (.plain (OpenSpec.ofChange valuesSortsSpec)) valuesSortsCard

/-- THE SECOND FORM's CARD OF 'refuterlaw31.DiffOptions'. -/
def diffOptionsUptoCard : Claim7 := { stood := { row := diffOptionsUptoRow, standIns := [], harness := (true, "68da3902f343b340fe54ece3d1d1e1384fe3dc75aa20369ccc0b78ef5a46252d"), looks := true }, kinds := [], alts := [], laidByText := true, laidKinds := [.data, .data, .data, .sentinel, .sentinel], laidTests := true, laidLooks := .later }
def DiffOptionsUptoCardSaid : Prop := Claim7.holds Tryz.pinned (.plain (OpenSpec.upto diffOptionsSpec)) diffOptionsUptoCard

/-- THE SECOND FORM's CARD OF 'refuterlaw31.DiffMatches'. -/
def diffMatchesUptoCard : Claim7 := { stood := { row := diffMatchesUptoRow, standIns := [], harness := (true, "68da3902f343b340fe54ece3d1d1e1384fe3dc75aa20369ccc0b78ef5a46252d"), looks := true }, kinds := [], alts := [], laidByText := true, laidKinds := [.data, .data, .data, .sentinel, .sentinel], laidTests := true, laidLooks := .later }
def DiffMatchesUptoCardSaid : Prop := Claim7.holds Tryz.pinned (.plain (OpenSpec.upto diffMatchesSpec)) diffMatchesUptoCard

/-- THE SECOND FORM's CARD OF 'refuterlaw10.ValuesOrder'. -/
def valuesOrderUptoCard : Claim7 := { stood := { row := valuesOrderUptoRow, standIns := [], harness := (true, "68da3902f343b340fe54ece3d1d1e1384fe3dc75aa20369ccc0b78ef5a46252d"), looks := true }, kinds := [], alts := [], laidByText := true, laidKinds := [.data, .data, .data, .sentinel, .sentinel], laidTests := true, laidLooks := .later }
def ValuesOrderUptoCardSaid : Prop := Claim7.holds Tryz.pinned (.plain (OpenSpec.upto valuesOrderSpec)) valuesOrderUptoCard

/-- THE SECOND FORM's CARD OF 'refuterlaw10.ValuesValid'. -/
def valuesValidUptoCard : Claim7 := { stood := { row := valuesValidUptoRow, standIns := [], harness := (true, "68da3902f343b340fe54ece3d1d1e1384fe3dc75aa20369ccc0b78ef5a46252d"), looks := true }, kinds := [], alts := [], laidByText := true, laidKinds := [.data, .data, .data, .sentinel, .sentinel], laidTests := true, laidLooks := .later }
def ValuesValidUptoCardSaid : Prop := Claim7.holds Tryz.pinned (.plain (OpenSpec.upto valuesValidSpec)) valuesValidUptoCard

/-- THE SECOND FORM's CARD OF 'refuterlaw10.ValuesTexts'. -/
def valuesTextsUptoCard : Claim7 := { stood := { row := valuesTextsUptoRow, standIns := [], harness := (true, "68da3902f343b340fe54ece3d1d1e1384fe3dc75aa20369ccc0b78ef5a46252d"), looks := true }, kinds := [], alts := [], laidByText := true, laidKinds := [.data, .data, .data, .sentinel, .sentinel], laidTests := true, laidLooks := .later }
def ValuesTextsUptoCardSaid : Prop := Claim7.holds Tryz.pinned (.plain (OpenSpec.upto valuesTextsSpec)) valuesTextsUptoCard

/-- THE SECOND FORM's CARD OF 'refuterlaw10.ValuesSorts'. -/
def valuesSortsUptoCard : Claim7 := { stood := { row := valuesSortsUptoRow, standIns := [], harness := (true, "68da3902f343b340fe54ece3d1d1e1384fe3dc75aa20369ccc0b78ef5a46252d"), looks := true }, kinds := [], alts := [], laidByText := true, laidKinds := [.data, .data, .data, .sentinel, .sentinel], laidTests := true, laidLooks := .later }
def ValuesSortsUptoCardSaid : Prop := Claim7.holds Tryz.pinned (.plain (OpenSpec.upto valuesSortsSpec)) valuesSortsUptoCard
end Rows
end Go.Proofs.YtgnkoonihkfloaaGreatDoor
