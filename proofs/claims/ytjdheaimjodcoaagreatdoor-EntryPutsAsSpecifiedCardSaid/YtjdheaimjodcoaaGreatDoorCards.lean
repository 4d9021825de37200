/-
  DERIVED. GIVEN WITH THE SEED: THE CARDS: each row of YtjdheaimjodcoaaGreatDoorRows.lean that lists a variable, with what it lists TIED to the program's text (the seventh form; the later family's looks); each row that meets fmt, with fmt's text TOLD by the authors' own Lean function (tested against real Go, not proved from fmt's source: count such statements apart). THE CARD IS WHAT COUNTS. Prove the row's statement (the work); the ties are given (YtjdheaimjodcoaaGreatDoorTie.lean); close each card by the builder's one call (the guide's Derived/Test/ToyasCard.lean, 'card_holds'). Laid BY PROGRAM, IN A SANDBOX (cutbox-door.mjs). By AI agents, Wed Nov 11 2026. No macro, syntax, notation, axiom, sorry.
-/
import Derived.Test.YtjdheaimjodcoaaGreatDoorRows
import GoSem.ClaimSeven
namespace Go.Proofs.YtjdheaimjodcoaaGreatDoor
namespace Rows

/-- THE TIED CARD OF 'weirgatelaw34.OriginAnswersAsSpecified'. -/
def originAnswersAsSpecifiedCard : Claim7 := { stood := { row := originAnswersAsSpecifiedRow, standIns := [], harness := (true, "54d3b63e45994d8158d8599cc0b1a7d5a25ee8254c3033fcb1c9dc483d8329c8"), looks := false }, kinds := [], alts := [], laidByText := true, laidKinds := [.data, .data, .data, .pinned], laidTests := true, laidLooks := .later }
def OriginAnswersAsSpecifiedCardSaid : Prop := Claim7.holds Tryz.pinned (.plain (OpenSpec.ofChange originAnswersAsSpecifiedSpec)) originAnswersAsSpecifiedCard

/-- THE TIED CARD OF 'weirgatelaw34.OriginTruthIsAsSpecified'. -/
def originTruthIsAsSpecifiedCard : Claim7 := { stood := { row := originTruthIsAsSpecifiedRow, standIns := [], harness := (true, "54d3b63e45994d8158d8599cc0b1a7d5a25ee8254c3033fcb1c9dc483d8329c8"), looks := false }, kinds := [], alts := [], laidByText := true, laidKinds := [.data, .data, .data, .pinned], laidTests := true, laidLooks := .later }
def OriginTruthIsAsSpecifiedCardSaid : Prop := Claim7.holds Tryz.pinned (.plain (OpenSpec.ofChange originTruthIsAsSpecifiedSpec)) originTruthIsAsSpecifiedCard

/-- THE TIED CARD OF 'weirgatelaw34.OriginPartsFit'. -/
def originPartsFitCard : Claim7 := { stood := { row := originPartsFitRow, standIns := [], harness := (true, "54d3b63e45994d8158d8599cc0b1a7d5a25ee8254c3033fcb1c9dc483d8329c8"), looks := false }, kinds := [], alts := [], laidByText := true, laidKinds := [.data, .data, .pinned], laidTests := true, laidLooks := .later }
def OriginPartsFitCardSaid : Prop := Claim7.holds Tryz.pinned (.plain (OpenSpec.ofChange originPartsFitSpec)) originPartsFitCard

/-- THE TIED CARD OF 'weirgatelaw35.EntryMergesAsSpecified'. -/
def entryMergesAsSpecifiedCard : Claim7 := { stood := { row := entryMergesAsSpecifiedRow, standIns := [], harness := (true, "54d3b63e45994d8158d8599cc0b1a7d5a25ee8254c3033fcb1c9dc483d8329c8"), looks := false }, kinds := [], alts := [], laidByText := true, laidKinds := [.data, .data], laidTests := true, laidLooks := .later }
def EntryMergesAsSpecifiedCardSaid : Prop := Claim7.holds Tryz.pinned (.plain (OpenSpec.ofChange entryMergesAsSpecifiedSpec)) entryMergesAsSpecifiedCard

/-- THE TIED CARD OF 'weirgatelaw35.EntryIsWhatItsStampSays'. -/
def entryIsWhatItsStampSaysCard : Claim7 := { stood := { row := entryIsWhatItsStampSaysRow, standIns := [], harness := (true, "54d3b63e45994d8158d8599cc0b1a7d5a25ee8254c3033fcb1c9dc483d8329c8"), looks := false }, kinds := [], alts := [], laidByText := true, laidKinds := [.data, .data], laidTests := true, laidLooks := .later }
def EntryIsWhatItsStampSaysCardSaid : Prop := Claim7.holds Tryz.pinned (.plain (OpenSpec.ofChange entryIsWhatItsStampSaysSpec)) entryIsWhatItsStampSaysCard

/-- THE TIED CARD OF 'weirgatelaw35.EntryPutsAsSpecified'. -/
def entryPutsAsSpecifiedCard : Claim7 := { stood := { row := entryPutsAsSpecifiedRow, standIns := [], harness := (true, "54d3b63e45994d8158d8599cc0b1a7d5a25ee8254c3033fcb1c9dc483d8329c8"), looks := false }, kinds := [], alts := [], laidByText := true, laidKinds := [.data, .data, .data, .pinned], laidTests := true, laidLooks := .later }
def EntryPutsAsSpecifiedCardSaid : Prop := Claim7.holds Tryz.pinned (.plain (OpenSpec.ofChange entryPutsAsSpecifiedSpec)) entryPutsAsSpecifiedCard

/-- THE SECOND FORM's CARD OF 'weirgatelaw34.OriginAnswersAsSpecified'. -/
def originAnswersAsSpecifiedUptoCard : Claim7 := { stood := { row := originAnswersAsSpecifiedUptoRow, standIns := [], harness := (true, "54d3b63e45994d8158d8599cc0b1a7d5a25ee8254c3033fcb1c9dc483d8329c8"), looks := false }, kinds := [], alts := [], laidByText := true, laidKinds := [.data, .data, .data, .pinned], laidTests := true, laidLooks := .later }
def OriginAnswersAsSpecifiedUptoCardSaid : Prop := Claim7.holds Tryz.pinned (.plain (OpenSpec.upto originAnswersAsSpecifiedSpec)) originAnswersAsSpecifiedUptoCard

/-- THE SECOND FORM's CARD OF 'weirgatelaw34.OriginTruthIsAsSpecified'. -/
def originTruthIsAsSpecifiedUptoCard : Claim7 := { stood := { row := originTruthIsAsSpecifiedUptoRow, standIns := [], harness := (true, "54d3b63e45994d8158d8599cc0b1a7d5a25ee8254c3033fcb1c9dc483d8329c8"), looks := false }, kinds := [], alts := [], laidByText := true, laidKinds := [.data, .data, .data, .pinned], laidTests := true, laidLooks := .later }
def OriginTruthIsAsSpecifiedUptoCardSaid : Prop := Claim7.holds Tryz.pinned (.plain (OpenSpec.upto originTruthIsAsSpecifiedSpec)) originTruthIsAsSpecifiedUptoCard

/-- THE SECOND FORM's CARD OF 'weirgatelaw34.OriginPartsFit'. -/
def originPartsFitUptoCard : Claim7 := { stood := { row := originPartsFitUptoRow, standIns := [], harness := (true, "54d3b63e45994d8158d8599cc0b1a7d5a25ee8254c3033fcb1c9dc483d8329c8"), looks := false }, kinds := [], alts := [], laidByText := true, laidKinds := [.data, .data, .pinned], laidTests := true, laidLooks := .later }
def OriginPartsFitUptoCardSaid : Prop := Claim7.holds Tryz.pinned (.plain (OpenSpec.upto originPartsFitSpec)) originPartsFitUptoCard

/-- THE SECOND FORM's CARD OF 'weirgatelaw35.EntryMergesAsSpecified'. -/
def entryMergesAsSpecifiedUptoCard : Claim7 := { stood := { row := entryMergesAsSpecifiedUptoRow, standIns := [], harness := (true, "54d3b63e45994d8158d8599cc0b1a7d5a25ee8254c3033fcb1c9dc483d8329c8"), looks := false }, kinds := [], alts := [], laidByText := true, laidKinds := [.data, .data], laidTests := true, laidLooks := .later }
def EntryMergesAsSpecifiedUptoCardSaid : Prop := Claim7.holds Tryz.pinned (.plain (OpenSpec.upto entryMergesAsSpecifiedSpec)) entryMergesAsSpecifiedUptoCard

/-- THE SECOND FORM's CARD OF 'weirgatelaw35.EntryIsWhatItsStampSays'. -/
def entryIsWhatItsStampSaysUptoCard : Claim7 := { stood := { row := entryIsWhatItsStampSaysUptoRow, standIns := [], harness := (true, "54d3b63e45994d8158d8599cc0b1a7d5a25ee8254c3033fcb1c9dc483d8329c8"), looks := false }, kinds := [], alts := [], laidByText := true, laidKinds := [.data, .data], laidTests := true, laidLooks := .later }
def EntryIsWhatItsStampSaysUptoCardSaid : Prop := Claim7.holds Tryz.pinned (.plain (OpenSpec.upto entryIsWhatItsStampSaysSpec)) entryIsWhatItsStampSaysUptoCard

/-- THE SECOND FORM's CARD OF 'weirgatelaw35.EntryPutsAsSpecified'. -/
def entryPutsAsSpecifiedUptoCard : Claim7 := { stood := { row := entryPutsAsSpecifiedUptoRow, standIns := [], harness := (true, "54d3b63e45994d8158d8599cc0b1a7d5a25ee8254c3033fcb1c9dc483d8329c8"), looks := false }, kinds := [], alts := [], laidByText := true, laidKinds := [.data, .data, .data, .pinned], laidTests := true, laidLooks := .later }
def EntryPutsAsSpecifiedUptoCardSaid : Prop := Claim7.holds Tryz.pinned (.plain (OpenSpec.upto entryPutsAsSpecifiedSpec)) entryPutsAsSpecifiedUptoCard
end Rows
end Go.Proofs.YtjdheaimjodcoaaGreatDoor
