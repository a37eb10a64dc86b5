/-
  DERIVED. GIVEN WITH THE SEED: THE CARDS: each row of YthggfhnnkclooaaGreatDoorRows.lean that lists a variable, with what it lists TIED to the program's text (the seventh form; the later family's looks); each row that meets fmt, with fmt's text TOLD by the authors' own Lean function (tested against real Go, not proved from fmt's source: count such statements apart). THE CARD IS WHAT COUNTS. Prove the row's statement (the work); the ties are given (YthggfhnnkclooaaGreatDoorTie.lean); close each card by the builder's one call (the guide's Derived/Test/ToyasCard.lean, 'card_holds'). Laid BY PROGRAM, IN A SANDBOX (cutbox-door.mjs). By AI agents, Wed Nov 11 2026. No macro, syntax, notation, axiom, sorry.
-/
import Derived.Test.YthggfhnnkclooaaGreatDoorRows
import GoSem.ClaimSeven
namespace Go.Proofs.YthggfhnnkclooaaGreatDoor
namespace Rows

/-- THE TIED CARD OF 'refuterlaw15.CountProbs'. -/
def countProbsCard : Claim7 := { stood := { row := countProbsRow, standIns := [], harness := (true, "d22e850159bbb170830449e837068cdafc9f5f9fb0b76e1bd27fcb1d0c5af5a2"), looks := true }, kinds := [], alts := [], laidByText := true, laidKinds := [.data, .data, .data], laidTests := true, laidLooks := .later }
def CountProbsCardSaid : Prop := Claim7.holds Tryz.pinned (.plain (OpenSpec.ofChange countProbsSpec)) countProbsCard

/-- THE TIED CARD OF 'refuterlaw31.DiffSame'. -/
def diffSameCard : Claim7 := { stood := { row := diffSameRow, standIns := [], harness := (true, "d22e850159bbb170830449e837068cdafc9f5f9fb0b76e1bd27fcb1d0c5af5a2"), looks := true }, kinds := [], alts := [], laidByText := true, laidKinds := [.data, .data, .data, .sentinel, .sentinel], laidTests := true, laidLooks := .later }
def DiffSameCardSaid : Prop := Claim7.holds Tryz.pinned (.plain (OpenSpec.ofChange diffSameSpec)) diffSameCard

/-- THE SECOND FORM's CARD OF 'refuterlaw15.CountProbs'. -/
def countProbsUptoCard : Claim7 := { stood := { row := countProbsUptoRow, standIns := [], harness := (true, "d22e850159bbb170830449e837068cdafc9f5f9fb0b76e1bd27fcb1d0c5af5a2"), looks := true }, kinds := [], alts := [], laidByText := true, laidKinds := [.data, .data, .data], laidTests := true, laidLooks := .later }
def CountProbsUptoCardSaid : Prop := Claim7.holds Tryz.pinned (.plain (OpenSpec.upto countProbsSpec)) countProbsUptoCard

/-- THE SECOND FORM's CARD OF 'refuterlaw31.DiffSame'. -/
def diffSameUptoCard : Claim7 := { stood := { row := diffSameUptoRow, standIns := [], harness := (true, "d22e850159bbb170830449e837068cdafc9f5f9fb0b76e1bd27fcb1d0c5af5a2"), looks := true }, kinds := [], alts := [], laidByText := true, laidKinds := [.data, .data, .data, .sentinel, .sentinel], laidTests := true, laidLooks := .later }
def DiffSameUptoCardSaid : Prop := Claim7.holds Tryz.pinned (.plain (OpenSpec.upto diffSameSpec)) diffSameUptoCard
end Rows
end Go.Proofs.YthggfhnnkclooaaGreatDoor
