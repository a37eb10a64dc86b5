/-
  DERIVED. GIVEN WITH THE SEED: THE CARDS: each row of YtidjhgajglebnaaGreatDoorRows.lean that lists a variable, with what it lists TIED to the program's text (the seventh form; the later family's looks); each row that meets fmt, with fmt's text TOLD by the authors' own Lean function (tested against real Go, not proved from fmt's source: count such statements apart). THE CARD IS WHAT COUNTS. Prove the row's statement (the work); the ties are given (YtidjhgajglebnaaGreatDoorTie.lean); close each card by the builder's one call (the guide's Derived/Test/ToyasCard.lean, 'card_holds'). Laid BY PROGRAM, IN A SANDBOX (cutbox-door.mjs). By AI agents, Wed Nov 11 2026. No macro, syntax, notation, axiom, sorry.
-/
import Derived.Test.YtidjhgajglebnaaGreatDoorRows
import GoSem.ClaimSeven
namespace Go.Proofs.YtidjhgajglebnaaGreatDoor
namespace Rows

/-- THE TIED CARD OF 'refuterlaw15.CountPaths'. -/
def countPathsCard : Claim7 := { stood := { row := countPathsRow, standIns := [], harness := (true, "fda7b0fb586e88cf6bf2795a01cc1c61900e7f18af073dc348a5b55cded4b5ba"), looks := true }, kinds := [], alts := [], laidByText := true, laidKinds := [.data, .data, .data], laidTests := true, laidLooks := .later }
def CountPathsCardSaid : Prop := Claim7.holds Tryz.pinned (.plain (OpenSpec.ofChange countPathsSpec)) countPathsCard

/-- THE TIED CARD OF 'refuterlaw15.CountGrows'. -/
def countGrowsCard : Claim7 := { stood := { row := countGrowsRow, standIns := [], harness := (true, "fda7b0fb586e88cf6bf2795a01cc1c61900e7f18af073dc348a5b55cded4b5ba"), looks := true }, kinds := [], alts := [], laidByText := true, laidKinds := [.data, .data, .data], laidTests := true, laidLooks := .later }
def CountGrowsCardSaid : Prop := Claim7.holds Tryz.pinned (.plain (OpenSpec.ofChange countGrowsSpec)) countGrowsCard

/-- THE TIED CARD OF 'refuterlaw15.CountSizes'. -/
def countSizesCard : Claim7 := { stood := { row := countSizesRow, standIns := [], harness := (true, "fda7b0fb586e88cf6bf2795a01cc1c61900e7f18af073dc348a5b55cded4b5ba"), looks := true }, kinds := [], alts := [], laidByText := true, laidKinds := [.data, .data, .data], laidTests := true, laidLooks := .later }
def CountSizesCardSaid : Prop := Claim7.holds Tryz.pinned (.plain (OpenSpec.ofChange countSizesSpec)) countSizesCard

/-- THE SECOND FORM's CARD OF 'refuterlaw15.CountPaths'. -/
def countPathsUptoCard : Claim7 := { stood := { row := countPathsUptoRow, standIns := [], harness := (true, "fda7b0fb586e88cf6bf2795a01cc1c61900e7f18af073dc348a5b55cded4b5ba"), looks := true }, kinds := [], alts := [], laidByText := true, laidKinds := [.data, .data, .data], laidTests := true, laidLooks := .later }
def CountPathsUptoCardSaid : Prop := Claim7.holds Tryz.pinned (.plain (OpenSpec.upto countPathsSpec)) countPathsUptoCard

/-- THE SECOND FORM's CARD OF 'refuterlaw15.CountGrows'. -/
def countGrowsUptoCard : Claim7 := { stood := { row := countGrowsUptoRow, standIns := [], harness := (true, "fda7b0fb586e88cf6bf2795a01cc1c61900e7f18af073dc348a5b55cded4b5ba"), looks := true }, kinds := [], alts := [], laidByText := true, laidKinds := [.data, .data, .data], laidTests := true, laidLooks := .later }
def CountGrowsUptoCardSaid : Prop := Claim7.holds Tryz.pinned (.plain (OpenSpec.upto countGrowsSpec)) countGrowsUptoCard

/-- THE SECOND FORM's CARD OF 'refuterlaw15.CountSizes'. -/
def countSizesUptoCard : Claim7 := { stood := { row := countSizesUptoRow, standIns := [], harness := (true, "fda7b0fb586e88cf6bf2795a01cc1c61900e7f18af073dc348a5b55cded4b5ba"), looks := true }, kinds := [], alts := [], laidByText := true, laidKinds := [.data, .data, .data], laidTests := true, laidLooks := .later }
def CountSizesUptoCardSaid : Prop := Claim7.holds Tryz.pinned (.plain (OpenSpec.upto countSizesSpec)) countSizesUptoCard
end Rows
end Go.Proofs.YtidjhgajglebnaaGreatDoor
