/-
  DERIVED. GIVEN WITH THE SEED: THE CARDS: each row of YtnookkohfkjbcaaGreatDoorRows.lean that lists a variable, with what it lists TIED to the program's text (the seventh form; the later family's looks); each row that meets fmt, with fmt's text TOLD by the authors' own Lean function (tested against real Go, not proved from fmt's source: count such statements apart). THE CARD IS WHAT COUNTS. Prove the row's statement (the work); the ties are given (YtnookkohfkjbcaaGreatDoorTie.lean); close each card by the builder's one call (the guide's Derived/Test/ToyasCard.lean, 'card_holds'). Laid BY PROGRAM, IN A SANDBOX (cutbox-door.mjs). By AI agents, Wed Nov 11 2026. No macro, syntax, notation, axiom, sorry.
-/
import Derived.Test.YtnookkohfkjbcaaGreatDoorRows
import GoSem.ClaimSeven
namespace Go.Proofs.YtnookkohfkjbcaaGreatDoor
namespace Rows

/-- THE TIED CARD OF 'refuterlaw31.DiffOptions'. -/
def diffOptionsCard : Claim7 := { stood := { row := diffOptionsRow, standIns := [], harness := (true, "a8bd80f378cf2a8aa5ad31489856a811419ad53f304c28b1552d766948686890"), looks := true }, kinds := [], alts := [], laidByText := true, laidKinds := [.data, .data, .data, .sentinel, .sentinel], laidTests := true, laidLooks := .later }
def DiffOptionsCardSaid : Prop := Claim7.holds Tryz.pinned (.plain (OpenSpec.ofChange diffOptionsSpec)) diffOptionsCard

/-- THE TIED CARD OF 'refuterlaw31.DiffMatches'. -/
def diffMatchesCard : Claim7 := { stood := { row := diffMatchesRow, standIns := [], harness := (true, "a8bd80f378cf2a8aa5ad31489856a811419ad53f304c28b1552d766948686890"), looks := true }, kinds := [], alts := [], laidByText := true, laidKinds := [.data, .data, .data, .sentinel, .sentinel], laidTests := true, laidLooks := .later }
def DiffMatchesCardSaid : Prop := Claim7.holds Tryz.pinned (.plain (OpenSpec.ofChange diffMatchesSpec)) diffMatchesCard

/-- THE TIED CARD OF 'refuterlaw31.DiffItself'. -/
def diffItselfCard : Claim7 := { stood := { row := diffItselfRow, standIns := [], harness := (true, "a8bd80f378cf2a8aa5ad31489856a811419ad53f304c28b1552d766948686890"), looks := true }, kinds := [], alts := [], laidByText := true, laidKinds := [.data, .data, .data, .sentinel, .sentinel], laidTests := true, laidLooks := .later }
def DiffItselfCardSaid : Prop := Claim7.holds Tryz.pinned (.plain (OpenSpec.ofChange diffItselfSpec)) diffItselfCard

/-- THE SECOND FORM's CARD OF 'refuterlaw31.DiffOptions'. -/
def diffOptionsUptoCard : Claim7 := { stood := { row := diffOptionsUptoRow, standIns := [], harness := (true, "a8bd80f378cf2a8aa5ad31489856a811419ad53f304c28b1552d766948686890"), looks := true }, kinds := [], alts := [], laidByText := true, laidKinds := [.data, .data, .data, .sentinel, .sentinel], laidTests := true, laidLooks := .later }
def DiffOptionsUptoCardSaid : Prop := Claim7.holds Tryz.pinned (.plain (OpenSpec.upto diffOptionsSpec)) diffOptionsUptoCard

/-- THE SECOND FORM's CARD OF 'refuterlaw31.DiffMatches'. -/
def diffMatchesUptoCard : Claim7 := { stood := { row := diffMatchesUptoRow, standIns := [], harness := (true, "a8bd80f378cf2a8aa5ad31489856a811419ad53f304c28b1552d766948686890"), looks := true }, kinds := [], alts := [], laidByText := true, laidKinds := [.data, .data, .data, .sentinel, .sentinel], laidTests := true, laidLooks := .later }
def DiffMatchesUptoCardSaid : Prop := Claim7.holds Tryz.pinned (.plain (OpenSpec.upto diffMatchesSpec)) diffMatchesUptoCard

/-- THE SECOND FORM's CARD OF 'refuterlaw31.DiffItself'. -/
def diffItselfUptoCard : Claim7 := { stood := { row := diffItselfUptoRow, standIns := [], harness := (true, "a8bd80f378cf2a8aa5ad31489856a811419ad53f304c28b1552d766948686890"), looks := true }, kinds := [], alts := [], laidByText := true, laidKinds := [.data, .data, .data, .sentinel, .sentinel], laidTests := true, laidLooks := .later }
def DiffItselfUptoCardSaid : Prop := Claim7.holds Tryz.pinned (.plain (OpenSpec.upto diffItselfSpec)) diffItselfUptoCard
end Rows
end Go.Proofs.YtnookkohfkjbcaaGreatDoor
