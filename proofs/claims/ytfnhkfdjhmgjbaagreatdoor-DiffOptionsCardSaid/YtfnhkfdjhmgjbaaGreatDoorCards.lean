/-
  DERIVED. GIVEN WITH THE SEED: THE CARDS: each row of YtfnhkfdjhmgjbaaGreatDoorRows.lean that lists a variable, with what it lists TIED to the program's text (the seventh form; the later family's looks); each row that meets fmt, with fmt's text TOLD by the authors' own Lean function (tested against real Go, not proved from fmt's source: count such statements apart). THE CARD IS WHAT COUNTS. Prove the row's statement (the work); the ties are given (YtfnhkfdjhmgjbaaGreatDoorTie.lean); close each card by the builder's one call (the guide's Derived/Test/ToyasCard.lean, 'card_holds'). Laid BY PROGRAM, IN A SANDBOX (cutbox-door.mjs). By AI agents, Wed Nov 11 2026. No macro, syntax, notation, axiom, sorry.
-/
import Derived.Test.YtfnhkfdjhmgjbaaGreatDoorRows
import GoSem.ClaimSeven
namespace Go.Proofs.YtfnhkfdjhmgjbaaGreatDoor
namespace Rows

/-- THE TIED CARD OF 'refuterlaw31.DiffOptions'. -/
def diffOptionsCard : Claim7 := { stood := { row := diffOptionsRow, standIns := [], harness := (true, "cebb90f5b6c8043cf90fa8f833a2513adb42c54a16dc45e03f50e8ffbeabd8ae"), looks := true }, kinds := [], alts := [], laidByText := true, laidKinds := [.data, .data, .data, .sentinel, .sentinel], laidTests := true, laidLooks := .later }
def DiffOptionsCardSaid : Prop := Claim7.holds Tryz.pinned (.plain (OpenSpec.ofChange diffOptionsSpec)) diffOptionsCard

/-- THE TIED CARD OF 'refuterlaw10.ValuesTexts'. -/
def valuesTextsCard : Claim7 := { stood := { row := valuesTextsRow, standIns := [], harness := (true, "cebb90f5b6c8043cf90fa8f833a2513adb42c54a16dc45e03f50e8ffbeabd8ae"), looks := true }, kinds := [], alts := [], laidByText := true, laidKinds := [.data, .data, .data, .sentinel, .sentinel], laidTests := true, laidLooks := .later }
def ValuesTextsCardSaid : Prop := Claim7.holds Tryz.pinned (.plain (OpenSpec.ofChange valuesTextsSpec)) valuesTextsCard

/-- THE TIED CARD OF 'refuterlaw10.ValuesParses'. -/
def valuesParsesCard : Claim7 := { stood := { row := valuesParsesRow, standIns := [], harness := (true, "cebb90f5b6c8043cf90fa8f833a2513adb42c54a16dc45e03f50e8ffbeabd8ae"), looks := true }, kinds := [], alts := [], laidByText := true, laidKinds := [.data, .data, .data, .sentinel, .sentinel], laidTests := true, laidLooks := .later }
def ValuesParsesCardSaid : Prop := Claim7.holds Tryz.pinned (.plain (OpenSpec.ofChange valuesParsesSpec)) valuesParsesCard

/-- THE TIED CARD OF 'refuterlaw10.ValuesEncodes'. -/
def valuesEncodesCard : Claim7 := { stood := { row := valuesEncodesRow, standIns := [], harness := (true, "cebb90f5b6c8043cf90fa8f833a2513adb42c54a16dc45e03f50e8ffbeabd8ae"), looks := true }, kinds := [], alts := [], laidByText := true, laidKinds := [.data, .data, .data, .sentinel, .sentinel], laidTests := true, laidLooks := .later }
def ValuesEncodesCardSaid : Prop := Claim7.holds Tryz.pinned (.plain (OpenSpec.ofChange valuesEncodesSpec)) valuesEncodesCard

/-- THE TIED CARD OF 'refuterlaw10.ValuesDecodes'. -/
def valuesDecodesCard : Claim7 := { stood := { row := valuesDecodesRow, standIns := [], harness := (true, "cebb90f5b6c8043cf90fa8f833a2513adb42c54a16dc45e03f50e8ffbeabd8ae"), looks := true }, kinds := [], alts := [], laidByText := true, laidKinds := [.data, .data, .data, .sentinel, .sentinel], laidTests := true, laidLooks := .later }
def ValuesDecodesCardSaid : Prop := Claim7.holds Tryz.pinned (.plain (OpenSpec.ofChange valuesDecodesSpec)) valuesDecodesCard

/-- THE TIED CARD OF 'refuterlaw10.ValuesHashes'. -/
def valuesHashesCard : Claim7 := { stood := { row := valuesHashesRow, standIns := [], harness := (true, "cebb90f5b6c8043cf90fa8f833a2513adb42c54a16dc45e03f50e8ffbeabd8ae"), looks := true }, kinds := [], alts := [], laidByText := true, laidKinds := [.data, .data, .data, .sentinel, .sentinel], laidTests := true, laidLooks := .later }
def ValuesHashesCardSaid : Prop := Claim7.holds Tryz.pinned (.plain (OpenSpec.ofChange valuesHashesSpec)) valuesHashesCard

/-- THE TIED CARD OF 'refuterlaw10.ValuesSorts'. -/
def valuesSortsCard : Claim7 := { stood := { row := valuesSortsRow, standIns := [], harness := (true, "cebb90f5b6c8043cf90fa8f833a2513adb42c54a16dc45e03f50e8ffbeabd8ae"), looks := true }, kinds := [], alts := [], laidByText := true, laidKinds := [.data, .data, .data, .sentinel, .sentinel], laidTests := true, laidLooks := .later }
def ValuesSortsCardSaid : Prop := Claim7.holds Tryz.pinned (.plain (OpenSpec.ofChange valuesSortsSpec)) valuesSortsCard

/-- THE SECOND FORM's CARD OF 'refuterlaw31.DiffOptions'. -/
def diffOptionsUptoCard : Claim7 := { stood := { row := diffOptionsUptoRow, standIns := [], harness := (true, "cebb90f5b6c8043cf90fa8f833a2513adb42c54a16dc45e03f50e8ffbeabd8ae"), looks := true }, kinds := [], alts := [], laidByText := true, laidKinds := [.data, .data, .data, .sentinel, .sentinel], laidTests := true, laidLooks := .later }
def DiffOptionsUptoCardSaid : Prop := Claim7.holds Tryz.pinned (.plain (OpenSpec.upto diffOptionsSpec)) diffOptionsUptoCard

/-- THE SECOND FORM's CARD OF 'refuterlaw10.ValuesTexts'. -/
def valuesTextsUptoCard : Claim7 := { stood := { row := valuesTextsUptoRow, standIns := [], harness := (true, "cebb90f5b6c8043cf90fa8f833a2513adb42c54a16dc45e03f50e8ffbeabd8ae"), looks := true }, kinds := [], alts := [], laidByText := true, laidKinds := [.data, .data, .data, .sentinel, .sentinel], laidTests := true, laidLooks := .later }
def ValuesTextsUptoCardSaid : Prop := Claim7.holds Tryz.pinned (.plain (OpenSpec.upto valuesTextsSpec)) valuesTextsUptoCard

/-- THE SECOND FORM's CARD OF 'refuterlaw10.ValuesParses'. -/
def valuesParsesUptoCard : Claim7 := { stood := { row := valuesParsesUptoRow, standIns := [], harness := (true, "cebb90f5b6c8043cf90fa8f833a2513adb42c54a16dc45e03f50e8ffbeabd8ae"), looks := true }, kinds := [], alts := [], laidByText := true, laidKinds := [.data, .data, .data, .sentinel, .sentinel], laidTests := true, laidLooks := .later }
def ValuesParsesUptoCardSaid : Prop := Claim7.holds Tryz.pinned (.plain (OpenSpec.upto valuesParsesSpec)) valuesParsesUptoCard

/-- THE SECOND FORM's CARD OF 'refuterlaw10.ValuesEncodes'. -/
def valuesEncodesUptoCard : Claim7 := { stood := { row := valuesEncodesUptoRow, standIns := [], harness := (true, "cebb90f5b6c8043cf90fa8f833a2513adb42c54a16dc45e03f50e8ffbeabd8ae"), looks := true }, kinds := [], alts := [], laidByText := true, laidKinds := [.data, .data, .data, .sentinel, .sentinel], laidTests := true, laidLooks := .later }
def ValuesEncodesUptoCardSaid : Prop := Claim7.holds Tryz.pinned (.plain (OpenSpec.upto valuesEncodesSpec)) valuesEncodesUptoCard

/-- THE SECOND FORM's CARD OF 'refuterlaw10.ValuesDecodes'. -/
def valuesDecodesUptoCard : Claim7 := { stood := { row := valuesDecodesUptoRow, standIns := [], harness := (true, "cebb90f5b6c8043cf90fa8f833a2513adb42c54a16dc45e03f50e8ffbeabd8ae"), looks := true }, kinds := [], alts := [], laidByText := true, laidKinds := [.data, .data, .data, .sentinel, .sentinel], laidTests := true, laidLooks := .later }
def ValuesDecodesUptoCardSaid : Prop := Claim7.holds Tryz.pinned (.plain (OpenSpec.upto valuesDecodesSpec)) valuesDecodesUptoCard

/-- THE SECOND FORM's CARD OF 'refuterlaw10.ValuesHashes'. -/
def valuesHashesUptoCard : Claim7 := { stood := { row := valuesHashesUptoRow, standIns := [], harness := (true, "cebb90f5b6c8043cf90fa8f833a2513adb42c54a16dc45e03f50e8ffbeabd8ae"), looks := true }, kinds := [], alts := [], laidByText := true, laidKinds := [.data, .data, .data, .sentinel, .sentinel], laidTests := true, laidLooks := .later }
def ValuesHashesUptoCardSaid : Prop := Claim7.holds Tryz.pinned (.plain (OpenSpec.upto valuesHashesSpec)) valuesHashesUptoCard

/-- THE SECOND FORM's CARD OF 'refuterlaw10.ValuesSorts'. -/
def valuesSortsUptoCard : Claim7 := { stood := { row := valuesSortsUptoRow, standIns := [], harness := (true, "cebb90f5b6c8043cf90fa8f833a2513adb42c54a16dc45e03f50e8ffbeabd8ae"), looks := true }, kinds := [], alts := [], laidByText := true, laidKinds := [.data, .data, .data, .sentinel, .sentinel], laidTests := true, laidLooks := .later }
def ValuesSortsUptoCardSaid : Prop := Claim7.holds Tryz.pinned (.plain (OpenSpec.upto valuesSortsSpec)) valuesSortsUptoCard
end Rows
end Go.Proofs.YtfnhkfdjhmgjbaaGreatDoor
