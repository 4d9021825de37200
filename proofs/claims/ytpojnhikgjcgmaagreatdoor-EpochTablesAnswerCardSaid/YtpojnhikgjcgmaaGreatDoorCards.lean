/-
  DERIVED. GIVEN WITH THE SEED: THE CARDS: each row of YtpojnhikgjcgmaaGreatDoorRows.lean that lists a variable, with what it lists TIED to the program's text (the seventh form; the later family's looks); each row that meets fmt, with fmt's text TOLD by the authors' own Lean function (tested against real Go, not proved from fmt's source: count such statements apart). THE CARD IS WHAT COUNTS. Prove the row's statement (the work); the ties are given (YtpojnhikgjcgmaaGreatDoorTie.lean); close each card by the builder's one call (the guide's Derived/Test/ToyasCard.lean, 'card_holds'). Laid BY PROGRAM, IN A SANDBOX (cutbox-door.mjs). By AI agents, Wed Nov 11 2026. No macro, syntax, notation, axiom, sorry.
-/
import Derived.Test.YtpojnhikgjcgmaaGreatDoorRows
import GoSem.ClaimSeven
namespace Go.Proofs.YtpojnhikgjcgmaaGreatDoor
namespace Rows

/-- THE TIED CARD OF 'weirgatelaw31.EpochHitsAsSpecified'. -/
def epochHitsAsSpecifiedCard : Claim7 := { stood := { row := epochHitsAsSpecifiedRow, standIns := [], harness := (true, "d25cee2481dfad6c52f2e895b60dcb2bf696aa064cb3764af8320f11e4c99967"), looks := true }, kinds := [], alts := [], laidByText := true, laidKinds := [.data, .data, .data, .pinned], laidTests := true, laidLooks := .later }
def EpochHitsAsSpecifiedCardSaid : Prop := Claim7.holds Tryz.pinned (.plain (OpenSpec.ofChange epochHitsAsSpecifiedSpec)) epochHitsAsSpecifiedCard

/-- THE TIED CARD OF 'weirgatelaw31.EpochTablesAnswer'. -/
def epochTablesAnswerCard : Claim7 := { stood := { row := epochTablesAnswerRow, standIns := [], harness := (true, "d25cee2481dfad6c52f2e895b60dcb2bf696aa064cb3764af8320f11e4c99967"), looks := true }, kinds := [], alts := [], laidByText := true, laidKinds := [.data, .data, .data, .pinned], laidTests := true, laidLooks := .later }
def EpochTablesAnswerCardSaid : Prop := Claim7.holds Tryz.pinned (.plain (OpenSpec.ofChange epochTablesAnswerSpec)) epochTablesAnswerCard

/-- THE TIED CARD OF 'weirgatelaw31.EpochFoldsAsSpecified'. -/
def epochFoldsAsSpecifiedCard : Claim7 := { stood := { row := epochFoldsAsSpecifiedRow, standIns := [], harness := (true, "d25cee2481dfad6c52f2e895b60dcb2bf696aa064cb3764af8320f11e4c99967"), looks := true }, kinds := [], alts := [], laidByText := true, laidKinds := [.data, .data, .data, .pinned], laidTests := true, laidLooks := .later }
def EpochFoldsAsSpecifiedCardSaid : Prop := Claim7.holds Tryz.pinned (.plain (OpenSpec.ofChange epochFoldsAsSpecifiedSpec)) epochFoldsAsSpecifiedCard

/-- THE TIED CARD OF 'weirgatelaw31.EpochChangesAreSeen'. -/
def epochChangesAreSeenCard : Claim7 := { stood := { row := epochChangesAreSeenRow, standIns := [], harness := (true, "d25cee2481dfad6c52f2e895b60dcb2bf696aa064cb3764af8320f11e4c99967"), looks := true }, kinds := [], alts := [], laidByText := true, laidKinds := [.data, .data, .data, .pinned], laidTests := true, laidLooks := .later }
def EpochChangesAreSeenCardSaid : Prop := Claim7.holds Tryz.pinned (.plain (OpenSpec.ofChange epochChangesAreSeenSpec)) epochChangesAreSeenCard

/-- THE TIED CARD OF 'weirgatelaw31.EpochChainsAsSpecified'. -/
def epochChainsAsSpecifiedCard : Claim7 := { stood := { row := epochChainsAsSpecifiedRow, standIns := [], harness := (true, "d25cee2481dfad6c52f2e895b60dcb2bf696aa064cb3764af8320f11e4c99967"), looks := true }, kinds := [], alts := [], laidByText := true, laidKinds := [.data, .data, .data, .pinned], laidTests := true, laidLooks := .later }
def EpochChainsAsSpecifiedCardSaid : Prop := Claim7.holds Tryz.pinned (.plain (OpenSpec.ofChange epochChainsAsSpecifiedSpec)) epochChainsAsSpecifiedCard

/-- THE TIED CARD OF 'weirgatelaw31.EpochIssuesWhatIsHeard'. -/
def epochIssuesWhatIsHeardCard : Claim7 := { stood := { row := epochIssuesWhatIsHeardRow, standIns := [], harness := (true, "d25cee2481dfad6c52f2e895b60dcb2bf696aa064cb3764af8320f11e4c99967"), looks := true }, kinds := [], alts := [], laidByText := true, laidKinds := [.data, .data, .pinned], laidTests := true, laidLooks := .later }
def EpochIssuesWhatIsHeardCardSaid : Prop := Claim7.holds Tryz.pinned (.plain (OpenSpec.ofChange epochIssuesWhatIsHeardSpec)) epochIssuesWhatIsHeardCard

/-- THE TIED CARD OF 'weirgatelaw35.EntryPacksBack'. -/
def entryPacksBackCard : Claim7 := { stood := { row := entryPacksBackRow, standIns := [], harness := (true, "d25cee2481dfad6c52f2e895b60dcb2bf696aa064cb3764af8320f11e4c99967"), looks := true }, kinds := [], alts := [], laidByText := true, laidKinds := [.data, .data, .data, .pinned], laidTests := true, laidLooks := .later }
def EntryPacksBackCardSaid : Prop := Claim7.holds Tryz.pinned (.plain (OpenSpec.ofChange entryPacksBackSpec)) entryPacksBackCard

/-- THE SECOND FORM's CARD OF 'weirgatelaw31.EpochHitsAsSpecified'. -/
def epochHitsAsSpecifiedUptoCard : Claim7 := { stood := { row := epochHitsAsSpecifiedUptoRow, standIns := [], harness := (true, "d25cee2481dfad6c52f2e895b60dcb2bf696aa064cb3764af8320f11e4c99967"), looks := true }, kinds := [], alts := [], laidByText := true, laidKinds := [.data, .data, .data, .pinned], laidTests := true, laidLooks := .later }
def EpochHitsAsSpecifiedUptoCardSaid : Prop := Claim7.holds Tryz.pinned (.plain (OpenSpec.upto epochHitsAsSpecifiedSpec)) epochHitsAsSpecifiedUptoCard

/-- THE SECOND FORM's CARD OF 'weirgatelaw31.EpochTablesAnswer'. -/
def epochTablesAnswerUptoCard : Claim7 := { stood := { row := epochTablesAnswerUptoRow, standIns := [], harness := (true, "d25cee2481dfad6c52f2e895b60dcb2bf696aa064cb3764af8320f11e4c99967"), looks := true }, kinds := [], alts := [], laidByText := true, laidKinds := [.data, .data, .data, .pinned], laidTests := true, laidLooks := .later }
def EpochTablesAnswerUptoCardSaid : Prop := Claim7.holds Tryz.pinned (.plain (OpenSpec.upto epochTablesAnswerSpec)) epochTablesAnswerUptoCard

/-- THE SECOND FORM's CARD OF 'weirgatelaw31.EpochFoldsAsSpecified'. -/
def epochFoldsAsSpecifiedUptoCard : Claim7 := { stood := { row := epochFoldsAsSpecifiedUptoRow, standIns := [], harness := (true, "d25cee2481dfad6c52f2e895b60dcb2bf696aa064cb3764af8320f11e4c99967"), looks := true }, kinds := [], alts := [], laidByText := true, laidKinds := [.data, .data, .data, .pinned], laidTests := true, laidLooks := .later }
def EpochFoldsAsSpecifiedUptoCardSaid : Prop := Claim7.holds Tryz.pinned (.plain (OpenSpec.upto epochFoldsAsSpecifiedSpec)) epochFoldsAsSpecifiedUptoCard

/-- THE SECOND FORM's CARD OF 'weirgatelaw31.EpochChangesAreSeen'. -/
def epochChangesAreSeenUptoCard : Claim7 := { stood := { row := epochChangesAreSeenUptoRow, standIns := [], harness := (true, "d25cee2481dfad6c52f2e895b60dcb2bf696aa064cb3764af8320f11e4c99967"), looks := true }, kinds := [], alts := [], laidByText := true, laidKinds := [.data, .data, .data, .pinned], laidTests := true, laidLooks := .later }
def EpochChangesAreSeenUptoCardSaid : Prop := Claim7.holds Tryz.pinned (.plain (OpenSpec.upto epochChangesAreSeenSpec)) epochChangesAreSeenUptoCard

/-- THE SECOND FORM's CARD OF 'weirgatelaw31.EpochChainsAsSpecified'. -/
def epochChainsAsSpecifiedUptoCard : Claim7 := { stood := { row := epochChainsAsSpecifiedUptoRow, standIns := [], harness := (true, "d25cee2481dfad6c52f2e895b60dcb2bf696aa064cb3764af8320f11e4c99967"), looks := true }, kinds := [], alts := [], laidByText := true, laidKinds := [.data, .data, .data, .pinned], laidTests := true, laidLooks := .later }
def EpochChainsAsSpecifiedUptoCardSaid : Prop := Claim7.holds Tryz.pinned (.plain (OpenSpec.upto epochChainsAsSpecifiedSpec)) epochChainsAsSpecifiedUptoCard

/-- THE SECOND FORM's CARD OF 'weirgatelaw31.EpochIssuesWhatIsHeard'. -/
def epochIssuesWhatIsHeardUptoCard : Claim7 := { stood := { row := epochIssuesWhatIsHeardUptoRow, standIns := [], harness := (true, "d25cee2481dfad6c52f2e895b60dcb2bf696aa064cb3764af8320f11e4c99967"), looks := true }, kinds := [], alts := [], laidByText := true, laidKinds := [.data, .data, .pinned], laidTests := true, laidLooks := .later }
def EpochIssuesWhatIsHeardUptoCardSaid : Prop := Claim7.holds Tryz.pinned (.plain (OpenSpec.upto epochIssuesWhatIsHeardSpec)) epochIssuesWhatIsHeardUptoCard

/-- THE SECOND FORM's CARD OF 'weirgatelaw35.EntryPacksBack'. -/
def entryPacksBackUptoCard : Claim7 := { stood := { row := entryPacksBackUptoRow, standIns := [], harness := (true, "d25cee2481dfad6c52f2e895b60dcb2bf696aa064cb3764af8320f11e4c99967"), looks := true }, kinds := [], alts := [], laidByText := true, laidKinds := [.data, .data, .data, .pinned], laidTests := true, laidLooks := .later }
def EntryPacksBackUptoCardSaid : Prop := Claim7.holds Tryz.pinned (.plain (OpenSpec.upto entryPacksBackSpec)) entryPacksBackUptoCard
end Rows
end Go.Proofs.YtpojnhikgjcgmaaGreatDoor
