/-
  DERIVED. GIVEN WITH THE SEED: THE CARDS: each row of YtpfhmcdcmepfdaaGreatDoorRows.lean that lists a variable, with what it lists TIED to the program's text (the seventh form; the later family's looks); each row that meets fmt, with fmt's text TOLD by the authors' own Lean function (tested against real Go, not proved from fmt's source: count such statements apart). THE CARD IS WHAT COUNTS. Prove the row's statement (the work); the ties are given (YtpfhmcdcmepfdaaGreatDoorTie.lean); close each card by the builder's one call (the guide's Derived/Test/ToyasCard.lean, 'card_holds'). Laid BY PROGRAM, IN A SANDBOX (cutbox-door.mjs). By AI agents, Wed Nov 11 2026. No macro, syntax, notation, axiom, sorry.
-/
import Derived.Test.YtpfhmcdcmepfdaaGreatDoorRows
import GoSem.ClaimSeven
namespace Go.Proofs.YtpfhmcdcmepfdaaGreatDoor
namespace Rows

/-- THE TIED CARD OF 'weirgatelaw34.OriginStampsAsSpecified'. -/
def originStampsAsSpecifiedCard : Claim7 := { stood := { row := originStampsAsSpecifiedRow, standIns := [], harness := (true, "808105260bc8a983611fc436d679d4c79a003a75bb3a9e929c7a6d8bfab1b54c"), looks := false }, kinds := [], alts := [], laidByText := true, laidKinds := [.data, .data, .data, .pinned], laidTests := true, laidLooks := .later }
def OriginStampsAsSpecifiedCardSaid : Prop := Claim7.holds Tryz.pinned (.plain (OpenSpec.ofChange originStampsAsSpecifiedSpec)) originStampsAsSpecifiedCard

/-- THE TIED CARD OF 'weirgatelaw32.AccountConfirmsAsSpecified'. -/
def accountConfirmsAsSpecifiedCard : Claim7 := { stood := { row := accountConfirmsAsSpecifiedRow, standIns := [], harness := (true, "808105260bc8a983611fc436d679d4c79a003a75bb3a9e929c7a6d8bfab1b54c"), looks := false }, kinds := [], alts := [], laidByText := true, laidKinds := [.data, .data, .data, .pinned], laidTests := true, laidLooks := .later }
def AccountConfirmsAsSpecifiedCardSaid : Prop := Claim7.holds Tryz.pinned (.plain (OpenSpec.ofChange accountConfirmsAsSpecifiedSpec)) accountConfirmsAsSpecifiedCard

/-- THE TIED CARD OF 'weirgatelaw32.AccountMakesAsSpecified'. -/
def accountMakesAsSpecifiedCard : Claim7 := { stood := { row := accountMakesAsSpecifiedRow, standIns := [], harness := (true, "808105260bc8a983611fc436d679d4c79a003a75bb3a9e929c7a6d8bfab1b54c"), looks := false }, kinds := [], alts := [], laidByText := true, laidKinds := [.data, .data, .data, .pinned], laidTests := true, laidLooks := .later }
def AccountMakesAsSpecifiedCardSaid : Prop := Claim7.holds Tryz.pinned (.plain (OpenSpec.ofChange accountMakesAsSpecifiedSpec)) accountMakesAsSpecifiedCard

/-- THE TIED CARD OF 'weirgatelaw32.AccountMadeIsAccepted'. -/
def accountMadeIsAcceptedCard : Claim7 := { stood := { row := accountMadeIsAcceptedRow, standIns := [], harness := (true, "808105260bc8a983611fc436d679d4c79a003a75bb3a9e929c7a6d8bfab1b54c"), looks := false }, kinds := [], alts := [], laidByText := true, laidKinds := [.data, .data, .data, .pinned], laidTests := true, laidLooks := .later }
def AccountMadeIsAcceptedCardSaid : Prop := Claim7.holds Tryz.pinned (.plain (OpenSpec.ofChange accountMadeIsAcceptedSpec)) accountMadeIsAcceptedCard

/-- THE TIED CARD OF 'weirgatelaw32.AccountChangesAreFound'. -/
def accountChangesAreFoundCard : Claim7 := { stood := { row := accountChangesAreFoundRow, standIns := [], harness := (true, "808105260bc8a983611fc436d679d4c79a003a75bb3a9e929c7a6d8bfab1b54c"), looks := false }, kinds := [], alts := [], laidByText := true, laidKinds := [.data, .data, .data, .pinned], laidTests := true, laidLooks := .later }
def AccountChangesAreFoundCardSaid : Prop := Claim7.holds Tryz.pinned (.plain (OpenSpec.ofChange accountChangesAreFoundSpec)) accountChangesAreFoundCard

/-- THE TIED CARD OF 'weirgatelaw32.AccountNamesLiars'. -/
def accountNamesLiarsCard : Claim7 := { stood := { row := accountNamesLiarsRow, standIns := [], harness := (true, "808105260bc8a983611fc436d679d4c79a003a75bb3a9e929c7a6d8bfab1b54c"), looks := false }, kinds := [], alts := [], laidByText := true, laidKinds := [.data, .data, .data, .pinned], laidTests := true, laidLooks := .later }
def AccountNamesLiarsCardSaid : Prop := Claim7.holds Tryz.pinned (.plain (OpenSpec.ofChange accountNamesLiarsSpec)) accountNamesLiarsCard

/-- THE SECOND FORM's CARD OF 'weirgatelaw34.OriginStampsAsSpecified'. -/
def originStampsAsSpecifiedUptoCard : Claim7 := { stood := { row := originStampsAsSpecifiedUptoRow, standIns := [], harness := (true, "808105260bc8a983611fc436d679d4c79a003a75bb3a9e929c7a6d8bfab1b54c"), looks := false }, kinds := [], alts := [], laidByText := true, laidKinds := [.data, .data, .data, .pinned], laidTests := true, laidLooks := .later }
def OriginStampsAsSpecifiedUptoCardSaid : Prop := Claim7.holds Tryz.pinned (.plain (OpenSpec.upto originStampsAsSpecifiedSpec)) originStampsAsSpecifiedUptoCard

/-- THE SECOND FORM's CARD OF 'weirgatelaw32.AccountConfirmsAsSpecified'. -/
def accountConfirmsAsSpecifiedUptoCard : Claim7 := { stood := { row := accountConfirmsAsSpecifiedUptoRow, standIns := [], harness := (true, "808105260bc8a983611fc436d679d4c79a003a75bb3a9e929c7a6d8bfab1b54c"), looks := false }, kinds := [], alts := [], laidByText := true, laidKinds := [.data, .data, .data, .pinned], laidTests := true, laidLooks := .later }
def AccountConfirmsAsSpecifiedUptoCardSaid : Prop := Claim7.holds Tryz.pinned (.plain (OpenSpec.upto accountConfirmsAsSpecifiedSpec)) accountConfirmsAsSpecifiedUptoCard

/-- THE SECOND FORM's CARD OF 'weirgatelaw32.AccountMakesAsSpecified'. -/
def accountMakesAsSpecifiedUptoCard : Claim7 := { stood := { row := accountMakesAsSpecifiedUptoRow, standIns := [], harness := (true, "808105260bc8a983611fc436d679d4c79a003a75bb3a9e929c7a6d8bfab1b54c"), looks := false }, kinds := [], alts := [], laidByText := true, laidKinds := [.data, .data, .data, .pinned], laidTests := true, laidLooks := .later }
def AccountMakesAsSpecifiedUptoCardSaid : Prop := Claim7.holds Tryz.pinned (.plain (OpenSpec.upto accountMakesAsSpecifiedSpec)) accountMakesAsSpecifiedUptoCard

/-- THE SECOND FORM's CARD OF 'weirgatelaw32.AccountMadeIsAccepted'. -/
def accountMadeIsAcceptedUptoCard : Claim7 := { stood := { row := accountMadeIsAcceptedUptoRow, standIns := [], harness := (true, "808105260bc8a983611fc436d679d4c79a003a75bb3a9e929c7a6d8bfab1b54c"), looks := false }, kinds := [], alts := [], laidByText := true, laidKinds := [.data, .data, .data, .pinned], laidTests := true, laidLooks := .later }
def AccountMadeIsAcceptedUptoCardSaid : Prop := Claim7.holds Tryz.pinned (.plain (OpenSpec.upto accountMadeIsAcceptedSpec)) accountMadeIsAcceptedUptoCard

/-- THE SECOND FORM's CARD OF 'weirgatelaw32.AccountChangesAreFound'. -/
def accountChangesAreFoundUptoCard : Claim7 := { stood := { row := accountChangesAreFoundUptoRow, standIns := [], harness := (true, "808105260bc8a983611fc436d679d4c79a003a75bb3a9e929c7a6d8bfab1b54c"), looks := false }, kinds := [], alts := [], laidByText := true, laidKinds := [.data, .data, .data, .pinned], laidTests := true, laidLooks := .later }
def AccountChangesAreFoundUptoCardSaid : Prop := Claim7.holds Tryz.pinned (.plain (OpenSpec.upto accountChangesAreFoundSpec)) accountChangesAreFoundUptoCard

/-- THE SECOND FORM's CARD OF 'weirgatelaw32.AccountNamesLiars'. -/
def accountNamesLiarsUptoCard : Claim7 := { stood := { row := accountNamesLiarsUptoRow, standIns := [], harness := (true, "808105260bc8a983611fc436d679d4c79a003a75bb3a9e929c7a6d8bfab1b54c"), looks := false }, kinds := [], alts := [], laidByText := true, laidKinds := [.data, .data, .data, .pinned], laidTests := true, laidLooks := .later }
def AccountNamesLiarsUptoCardSaid : Prop := Claim7.holds Tryz.pinned (.plain (OpenSpec.upto accountNamesLiarsSpec)) accountNamesLiarsUptoCard
end Rows
end Go.Proofs.YtpfhmcdcmepfdaaGreatDoor
