/-
  DERIVED. GIVEN WITH THE SEED: THE CARDS: each row of YtpajadlnaokngaaGreatDoorRows.lean that lists a variable, with what it lists TIED to the program's text (the seventh form; the later family's looks); each row that meets fmt, with fmt's text TOLD by the authors' own Lean function (tested against real Go, not proved from fmt's source: count such statements apart). THE CARD IS WHAT COUNTS. Prove the row's statement (the work); the ties are given (YtpajadlnaokngaaGreatDoorTie.lean); close each card by the builder's one call (the guide's Derived/Test/ToyasCard.lean, 'card_holds'). Laid BY PROGRAM, IN A SANDBOX (cutbox-door.mjs). By AI agents, Wed Nov 11 2026. No macro, syntax, notation, axiom, sorry.
-/
import Derived.Test.YtpajadlnaokngaaGreatDoorRows
import GoSem.ClaimSeven
namespace Go.Proofs.YtpajadlnaokngaaGreatDoor
namespace Rows

/-- THE TIED CARD OF 'refuterlaw17.FilterValues'. -/
def filterValuesCard : Claim7 := { stood := { row := filterValuesRow, standIns := [], harness := (true, "1867b25e38742f2f2066b2638f44532e95b6ed5417ecd4575089f6cf139abb80"), looks := true }, kinds := [], alts := [], laidByText := true, laidKinds := [.data, .data, .data], laidTests := true, laidLooks := .later }
def FilterValuesCardSaid : Prop := Claim7.holds Tryz.pinned (.plain (OpenSpec.ofChange filterValuesSpec)) filterValuesCard

/-- THE TIED CARD OF 'refuterlaw16.RankErrors'. -/
def rankErrorsCard : Claim7 := { stood := { row := rankErrorsRow, standIns := [], harness := (true, "1867b25e38742f2f2066b2638f44532e95b6ed5417ecd4575089f6cf139abb80"), looks := true }, kinds := [], alts := [], laidByText := true, laidKinds := [.data, .data, .data], laidTests := true, laidLooks := .later }
def RankErrorsCardSaid : Prop := Claim7.holds Tryz.pinned (.plain (OpenSpec.ofChange rankErrorsSpec)) rankErrorsCard

/-- THE SECOND FORM's CARD OF 'refuterlaw17.FilterValues'. -/
def filterValuesUptoCard : Claim7 := { stood := { row := filterValuesUptoRow, standIns := [], harness := (true, "1867b25e38742f2f2066b2638f44532e95b6ed5417ecd4575089f6cf139abb80"), looks := true }, kinds := [], alts := [], laidByText := true, laidKinds := [.data, .data, .data], laidTests := true, laidLooks := .later }
def FilterValuesUptoCardSaid : Prop := Claim7.holds Tryz.pinned (.plain (OpenSpec.upto filterValuesSpec)) filterValuesUptoCard

/-- THE SECOND FORM's CARD OF 'refuterlaw16.RankErrors'. -/
def rankErrorsUptoCard : Claim7 := { stood := { row := rankErrorsUptoRow, standIns := [], harness := (true, "1867b25e38742f2f2066b2638f44532e95b6ed5417ecd4575089f6cf139abb80"), looks := true }, kinds := [], alts := [], laidByText := true, laidKinds := [.data, .data, .data], laidTests := true, laidLooks := .later }
def RankErrorsUptoCardSaid : Prop := Claim7.holds Tryz.pinned (.plain (OpenSpec.upto rankErrorsSpec)) rankErrorsUptoCard
end Rows
end Go.Proofs.YtpajadlnaokngaaGreatDoor
