/-
  DERIVED. GIVEN WITH THE SEED: THE CARDS: each row of YtpjacgcaibaggaaGreatDoorRows.lean that lists a variable, with what it lists TIED to the program's text (the seventh form; the later family's looks); each row that meets fmt, with fmt's text TOLD by the authors' own Lean function (tested against real Go, not proved from fmt's source: count such statements apart). THE CARD IS WHAT COUNTS. Prove the row's statement (the work); the ties are given (YtpjacgcaibaggaaGreatDoorTie.lean); close each card by the builder's one call (the guide's Derived/Test/ToyasCard.lean, 'card_holds'). Laid BY PROGRAM, IN A SANDBOX (cutbox-door.mjs). By AI agents, Wed Nov 11 2026. No macro, syntax, notation, axiom, sorry.
-/
import Derived.Test.YtpjacgcaibaggaaGreatDoorRows
import GoSem.ClaimSeven
namespace Go.Proofs.YtpjacgcaibaggaaGreatDoor
namespace Rows

/-- THE TIED CARD OF 'weirgatelaw34.OriginAnswersAsSpecified'. -/
def originAnswersAsSpecifiedCard : Claim7 := { stood := { row := originAnswersAsSpecifiedRow, standIns := [], harness := (true, "c02ddba274fe9ce7b916a2dc0670028ba2546deda57e5c196441136f5ab63c6e"), looks := false }, kinds := [], alts := [], laidByText := true, laidKinds := [.data, .data, .data, .pinned], laidTests := true, laidLooks := .later }
def OriginAnswersAsSpecifiedCardSaid : Prop := Claim7.holds Tryz.pinned (.plain (OpenSpec.ofChange originAnswersAsSpecifiedSpec)) originAnswersAsSpecifiedCard

/-- THE TIED CARD OF 'weirgatelaw34.OriginTruthIsAsSpecified'. -/
def originTruthIsAsSpecifiedCard : Claim7 := { stood := { row := originTruthIsAsSpecifiedRow, standIns := [], harness := (true, "c02ddba274fe9ce7b916a2dc0670028ba2546deda57e5c196441136f5ab63c6e"), looks := false }, kinds := [], alts := [], laidByText := true, laidKinds := [.data, .data, .data, .pinned], laidTests := true, laidLooks := .later }
def OriginTruthIsAsSpecifiedCardSaid : Prop := Claim7.holds Tryz.pinned (.plain (OpenSpec.ofChange originTruthIsAsSpecifiedSpec)) originTruthIsAsSpecifiedCard

/-- THE TIED CARD OF 'weirgatelaw34.OriginPartsFit'. -/
def originPartsFitCard : Claim7 := { stood := { row := originPartsFitRow, standIns := [], harness := (true, "c02ddba274fe9ce7b916a2dc0670028ba2546deda57e5c196441136f5ab63c6e"), looks := false }, kinds := [], alts := [], laidByText := true, laidKinds := [.data, .data, .pinned], laidTests := true, laidLooks := .later }
def OriginPartsFitCardSaid : Prop := Claim7.holds Tryz.pinned (.plain (OpenSpec.ofChange originPartsFitSpec)) originPartsFitCard

/-- THE TIED CARD OF 'weirgatelaw35.EntryIsWhatItsStampSays'. -/
def entryIsWhatItsStampSaysCard : Claim7 := { stood := { row := entryIsWhatItsStampSaysRow, standIns := [], harness := (true, "c02ddba274fe9ce7b916a2dc0670028ba2546deda57e5c196441136f5ab63c6e"), looks := false }, kinds := [], alts := [], laidByText := true, laidKinds := [.data, .data], laidTests := true, laidLooks := .later }
def EntryIsWhatItsStampSaysCardSaid : Prop := Claim7.holds Tryz.pinned (.plain (OpenSpec.ofChange entryIsWhatItsStampSaysSpec)) entryIsWhatItsStampSaysCard

/-- THE TIED CARD OF 'weirgatelaw34.OriginServesAsSpecified'. -/
def originServesAsSpecifiedCard : Claim7 := { stood := { row := originServesAsSpecifiedRow, standIns := [], harness := (true, "c02ddba274fe9ce7b916a2dc0670028ba2546deda57e5c196441136f5ab63c6e"), looks := false }, kinds := [], alts := [], laidByText := true, laidKinds := [.data, .data, .data, .pinned], laidTests := true, laidLooks := .later }
def OriginServesAsSpecifiedCardSaid : Prop := Claim7.holds Tryz.pinned (.plain (OpenSpec.ofChange originServesAsSpecifiedSpec)) originServesAsSpecifiedCard

/-- THE TIED CARD OF 'weirgatelaw34.OriginStampsAsSpecified'. -/
def originStampsAsSpecifiedCard : Claim7 := { stood := { row := originStampsAsSpecifiedRow, standIns := [], harness := (true, "c02ddba274fe9ce7b916a2dc0670028ba2546deda57e5c196441136f5ab63c6e"), looks := false }, kinds := [], alts := [], laidByText := true, laidKinds := [.data, .data, .data, .pinned], laidTests := true, laidLooks := .later }
def OriginStampsAsSpecifiedCardSaid : Prop := Claim7.holds Tryz.pinned (.plain (OpenSpec.ofChange originStampsAsSpecifiedSpec)) originStampsAsSpecifiedCard

/-- THE TIED CARD OF 'weirgatelaw34.OriginStampsAreTrue'. -/
def originStampsAreTrueCard : Claim7 := { stood := { row := originStampsAreTrueRow, standIns := [], harness := (true, "c02ddba274fe9ce7b916a2dc0670028ba2546deda57e5c196441136f5ab63c6e"), looks := false }, kinds := [], alts := [], laidByText := true, laidKinds := [.data, .data, .pinned], laidTests := true, laidLooks := .later }
def OriginStampsAreTrueCardSaid : Prop := Claim7.holds Tryz.pinned (.plain (OpenSpec.ofChange originStampsAreTrueSpec)) originStampsAreTrueCard

/-- THE SECOND FORM's CARD OF 'weirgatelaw34.OriginAnswersAsSpecified'. -/
def originAnswersAsSpecifiedUptoCard : Claim7 := { stood := { row := originAnswersAsSpecifiedUptoRow, standIns := [], harness := (true, "c02ddba274fe9ce7b916a2dc0670028ba2546deda57e5c196441136f5ab63c6e"), looks := false }, kinds := [], alts := [], laidByText := true, laidKinds := [.data, .data, .data, .pinned], laidTests := true, laidLooks := .later }
def OriginAnswersAsSpecifiedUptoCardSaid : Prop := Claim7.holds Tryz.pinned (.plain (OpenSpec.upto originAnswersAsSpecifiedSpec)) originAnswersAsSpecifiedUptoCard

/-- THE SECOND FORM's CARD OF 'weirgatelaw34.OriginTruthIsAsSpecified'. -/
def originTruthIsAsSpecifiedUptoCard : Claim7 := { stood := { row := originTruthIsAsSpecifiedUptoRow, standIns := [], harness := (true, "c02ddba274fe9ce7b916a2dc0670028ba2546deda57e5c196441136f5ab63c6e"), looks := false }, kinds := [], alts := [], laidByText := true, laidKinds := [.data, .data, .data, .pinned], laidTests := true, laidLooks := .later }
def OriginTruthIsAsSpecifiedUptoCardSaid : Prop := Claim7.holds Tryz.pinned (.plain (OpenSpec.upto originTruthIsAsSpecifiedSpec)) originTruthIsAsSpecifiedUptoCard

/-- THE SECOND FORM's CARD OF 'weirgatelaw34.OriginPartsFit'. -/
def originPartsFitUptoCard : Claim7 := { stood := { row := originPartsFitUptoRow, standIns := [], harness := (true, "c02ddba274fe9ce7b916a2dc0670028ba2546deda57e5c196441136f5ab63c6e"), looks := false }, kinds := [], alts := [], laidByText := true, laidKinds := [.data, .data, .pinned], laidTests := true, laidLooks := .later }
def OriginPartsFitUptoCardSaid : Prop := Claim7.holds Tryz.pinned (.plain (OpenSpec.upto originPartsFitSpec)) originPartsFitUptoCard

/-- THE SECOND FORM's CARD OF 'weirgatelaw35.EntryIsWhatItsStampSays'. -/
def entryIsWhatItsStampSaysUptoCard : Claim7 := { stood := { row := entryIsWhatItsStampSaysUptoRow, standIns := [], harness := (true, "c02ddba274fe9ce7b916a2dc0670028ba2546deda57e5c196441136f5ab63c6e"), looks := false }, kinds := [], alts := [], laidByText := true, laidKinds := [.data, .data], laidTests := true, laidLooks := .later }
def EntryIsWhatItsStampSaysUptoCardSaid : Prop := Claim7.holds Tryz.pinned (.plain (OpenSpec.upto entryIsWhatItsStampSaysSpec)) entryIsWhatItsStampSaysUptoCard

/-- THE SECOND FORM's CARD OF 'weirgatelaw34.OriginServesAsSpecified'. -/
def originServesAsSpecifiedUptoCard : Claim7 := { stood := { row := originServesAsSpecifiedUptoRow, standIns := [], harness := (true, "c02ddba274fe9ce7b916a2dc0670028ba2546deda57e5c196441136f5ab63c6e"), looks := false }, kinds := [], alts := [], laidByText := true, laidKinds := [.data, .data, .data, .pinned], laidTests := true, laidLooks := .later }
def OriginServesAsSpecifiedUptoCardSaid : Prop := Claim7.holds Tryz.pinned (.plain (OpenSpec.upto originServesAsSpecifiedSpec)) originServesAsSpecifiedUptoCard

/-- THE SECOND FORM's CARD OF 'weirgatelaw34.OriginStampsAsSpecified'. -/
def originStampsAsSpecifiedUptoCard : Claim7 := { stood := { row := originStampsAsSpecifiedUptoRow, standIns := [], harness := (true, "c02ddba274fe9ce7b916a2dc0670028ba2546deda57e5c196441136f5ab63c6e"), looks := false }, kinds := [], alts := [], laidByText := true, laidKinds := [.data, .data, .data, .pinned], laidTests := true, laidLooks := .later }
def OriginStampsAsSpecifiedUptoCardSaid : Prop := Claim7.holds Tryz.pinned (.plain (OpenSpec.upto originStampsAsSpecifiedSpec)) originStampsAsSpecifiedUptoCard

/-- THE SECOND FORM's CARD OF 'weirgatelaw34.OriginStampsAreTrue'. -/
def originStampsAreTrueUptoCard : Claim7 := { stood := { row := originStampsAreTrueUptoRow, standIns := [], harness := (true, "c02ddba274fe9ce7b916a2dc0670028ba2546deda57e5c196441136f5ab63c6e"), looks := false }, kinds := [], alts := [], laidByText := true, laidKinds := [.data, .data, .pinned], laidTests := true, laidLooks := .later }
def OriginStampsAreTrueUptoCardSaid : Prop := Claim7.holds Tryz.pinned (.plain (OpenSpec.upto originStampsAreTrueSpec)) originStampsAreTrueUptoCard
end Rows
end Go.Proofs.YtpjacgcaibaggaaGreatDoor
