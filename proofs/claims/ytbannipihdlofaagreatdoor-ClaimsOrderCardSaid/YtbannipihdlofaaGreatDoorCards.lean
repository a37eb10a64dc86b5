/-
  DERIVED. GIVEN WITH THE SEED: THE CARDS: each row of YtbannipihdlofaaGreatDoorRows.lean that lists a variable, with what it lists TIED to the program's text (the seventh form; the later family's looks); each row that meets fmt, with fmt's text TOLD by the authors' own Lean function (tested against real Go, not proved from fmt's source: count such statements apart). THE CARD IS WHAT COUNTS. Prove the row's statement (the work); the ties are given (YtbannipihdlofaaGreatDoorTie.lean); close each card by the builder's one call (the guide's Derived/Test/ToyasCard.lean, 'card_holds'). Laid BY PROGRAM, IN A SANDBOX (cutbox-door.mjs). By AI agents, Wed Nov 11 2026. No macro, syntax, notation, axiom, sorry.
-/
import Derived.Test.YtbannipihdlofaaGreatDoorRows
import GoSem.ClaimSeven
namespace Go.Proofs.YtbannipihdlofaaGreatDoor
namespace Rows

/-- THE TIED CARD OF 'refuterlaw25.ClaimsFeeds'. -/
def claimsFeedsCard : Claim7 := { stood := { row := claimsFeedsRow, standIns := [], harness := (true, "1ad57d261a745f36e32ffc610a4abefe7f4098a605cc97d14a4c5130433fad1d"), looks := true }, kinds := [], alts := [], laidByText := true, laidKinds := [.data, .data, .data, .sentinel, .sentinel], laidTests := true, laidLooks := .later }
def ClaimsFeedsCardSaid : Prop := Claim7.holds Tryz.pinned (.plain (OpenSpec.ofChange claimsFeedsSpec)) claimsFeedsCard

/-- THE TIED CARD OF 'refuterlaw25.ClaimsNew'. -/
def claimsNewCard : Claim7 := { stood := { row := claimsNewRow, standIns := [], harness := (true, "1ad57d261a745f36e32ffc610a4abefe7f4098a605cc97d14a4c5130433fad1d"), looks := true }, kinds := [], alts := [], laidByText := true, laidKinds := [.data, .data, .data, .sentinel, .sentinel], laidTests := true, laidLooks := .later }
def ClaimsNewCardSaid : Prop := Claim7.holds Tryz.pinned (.plain (OpenSpec.ofChange claimsNewSpec)) claimsNewCard

/-- THE TIED CARD OF 'refuterlaw25.ClaimsErrors'. -/
def claimsErrorsCard : Claim7 := { stood := { row := claimsErrorsRow, standIns := [], harness := (true, "1ad57d261a745f36e32ffc610a4abefe7f4098a605cc97d14a4c5130433fad1d"), looks := true }, kinds := [], alts := [], laidByText := true, laidKinds := [.data, .data, .data, .sentinel, .sentinel], laidTests := true, laidLooks := .later }
def ClaimsErrorsCardSaid : Prop := Claim7.holds Tryz.pinned (.plain (OpenSpec.ofChange claimsErrorsSpec)) claimsErrorsCard

/-- THE TIED CARD OF 'refuterlaw25.ClaimsGrows'. -/
def claimsGrowsCard : Claim7 := { stood := { row := claimsGrowsRow, standIns := [], harness := (true, "1ad57d261a745f36e32ffc610a4abefe7f4098a605cc97d14a4c5130433fad1d"), looks := true }, kinds := [], alts := [], laidByText := true, laidKinds := [.data, .data, .data, .sentinel, .sentinel], laidTests := true, laidLooks := .later }
def ClaimsGrowsCardSaid : Prop := Claim7.holds Tryz.pinned (.plain (OpenSpec.ofChange claimsGrowsSpec)) claimsGrowsCard

/-- THE TIED CARD OF 'refuterlaw25.ClaimsOrder'. -/
def claimsOrderCard : Claim7 := { stood := { row := claimsOrderRow, standIns := [], harness := (true, "1ad57d261a745f36e32ffc610a4abefe7f4098a605cc97d14a4c5130433fad1d"), looks := true }, kinds := [], alts := [], laidByText := true, laidKinds := [.data, .data, .data, .sentinel, .sentinel], laidTests := true, laidLooks := .later }
def ClaimsOrderCardSaid : Prop := Claim7.holds Tryz.pinned (.plain (OpenSpec.ofChange claimsOrderSpec)) claimsOrderCard

/-- THE SECOND FORM's CARD OF 'refuterlaw25.ClaimsFeeds'. -/
def claimsFeedsUptoCard : Claim7 := { stood := { row := claimsFeedsUptoRow, standIns := [], harness := (true, "1ad57d261a745f36e32ffc610a4abefe7f4098a605cc97d14a4c5130433fad1d"), looks := true }, kinds := [], alts := [], laidByText := true, laidKinds := [.data, .data, .data, .sentinel, .sentinel], laidTests := true, laidLooks := .later }
def ClaimsFeedsUptoCardSaid : Prop := Claim7.holds Tryz.pinned (.plain (OpenSpec.upto claimsFeedsSpec)) claimsFeedsUptoCard

/-- THE SECOND FORM's CARD OF 'refuterlaw25.ClaimsNew'. -/
def claimsNewUptoCard : Claim7 := { stood := { row := claimsNewUptoRow, standIns := [], harness := (true, "1ad57d261a745f36e32ffc610a4abefe7f4098a605cc97d14a4c5130433fad1d"), looks := true }, kinds := [], alts := [], laidByText := true, laidKinds := [.data, .data, .data, .sentinel, .sentinel], laidTests := true, laidLooks := .later }
def ClaimsNewUptoCardSaid : Prop := Claim7.holds Tryz.pinned (.plain (OpenSpec.upto claimsNewSpec)) claimsNewUptoCard

/-- THE SECOND FORM's CARD OF 'refuterlaw25.ClaimsErrors'. -/
def claimsErrorsUptoCard : Claim7 := { stood := { row := claimsErrorsUptoRow, standIns := [], harness := (true, "1ad57d261a745f36e32ffc610a4abefe7f4098a605cc97d14a4c5130433fad1d"), looks := true }, kinds := [], alts := [], laidByText := true, laidKinds := [.data, .data, .data, .sentinel, .sentinel], laidTests := true, laidLooks := .later }
def ClaimsErrorsUptoCardSaid : Prop := Claim7.holds Tryz.pinned (.plain (OpenSpec.upto claimsErrorsSpec)) claimsErrorsUptoCard

/-- THE SECOND FORM's CARD OF 'refuterlaw25.ClaimsGrows'. -/
def claimsGrowsUptoCard : Claim7 := { stood := { row := claimsGrowsUptoRow, standIns := [], harness := (true, "1ad57d261a745f36e32ffc610a4abefe7f4098a605cc97d14a4c5130433fad1d"), looks := true }, kinds := [], alts := [], laidByText := true, laidKinds := [.data, .data, .data, .sentinel, .sentinel], laidTests := true, laidLooks := .later }
def ClaimsGrowsUptoCardSaid : Prop := Claim7.holds Tryz.pinned (.plain (OpenSpec.upto claimsGrowsSpec)) claimsGrowsUptoCard

/-- THE SECOND FORM's CARD OF 'refuterlaw25.ClaimsOrder'. -/
def claimsOrderUptoCard : Claim7 := { stood := { row := claimsOrderUptoRow, standIns := [], harness := (true, "1ad57d261a745f36e32ffc610a4abefe7f4098a605cc97d14a4c5130433fad1d"), looks := true }, kinds := [], alts := [], laidByText := true, laidKinds := [.data, .data, .data, .sentinel, .sentinel], laidTests := true, laidLooks := .later }
def ClaimsOrderUptoCardSaid : Prop := Claim7.holds Tryz.pinned (.plain (OpenSpec.upto claimsOrderSpec)) claimsOrderUptoCard
end Rows
end Go.Proofs.YtbannipihdlofaaGreatDoor
