/-
  DERIVED. GIVEN WITH THE SEED: THE CARDS: each row of YthhblgjbgjceiaaGreatDoorRows.lean that lists a variable, with what it lists TIED to the program's text (the seventh form; the later family's looks); each row that meets fmt, with fmt's text TOLD by the authors' own Lean function (tested against real Go, not proved from fmt's source: count such statements apart). THE CARD IS WHAT COUNTS. Prove the row's statement (the work); the ties are given (YthhblgjbgjceiaaGreatDoorTie.lean); close each card by the builder's one call (the guide's Derived/Test/ToyasCard.lean, 'card_holds'). Laid BY PROGRAM, IN A SANDBOX (cutbox-door.mjs). By AI agents, Wed Nov 11 2026. No macro, syntax, notation, axiom, sorry.
-/
import Derived.Test.YthhblgjbgjceiaaGreatDoorRows
import GoSem.ClaimSeven
namespace Go.Proofs.YthhblgjbgjceiaaGreatDoor
namespace Rows

/-- THE TIED CARD OF 'weirgatelaw35.EntryMergesAsSpecified'. -/
def entryMergesAsSpecifiedCard : Claim7 := { stood := { row := entryMergesAsSpecifiedRow, standIns := [], harness := (true, "65f74722f3faa5b9e4c898ee5e188f621ca216e0b933128694d2da4bc596800c"), looks := true }, kinds := [], alts := [], laidByText := true, laidKinds := [.data, .data], laidTests := true, laidLooks := .later }
def EntryMergesAsSpecifiedCardSaid : Prop := Claim7.holds Tryz.pinned (.plain (OpenSpec.ofChange entryMergesAsSpecifiedSpec)) entryMergesAsSpecifiedCard

/-- THE TIED CARD OF 'weirgatelaw35.EntryIsWhatItsStampSays'. -/
def entryIsWhatItsStampSaysCard : Claim7 := { stood := { row := entryIsWhatItsStampSaysRow, standIns := [], harness := (true, "65f74722f3faa5b9e4c898ee5e188f621ca216e0b933128694d2da4bc596800c"), looks := true }, kinds := [], alts := [], laidByText := true, laidKinds := [.data, .data], laidTests := true, laidLooks := .later }
def EntryIsWhatItsStampSaysCardSaid : Prop := Claim7.holds Tryz.pinned (.plain (OpenSpec.ofChange entryIsWhatItsStampSaysSpec)) entryIsWhatItsStampSaysCard

/-- THE TIED CARD OF 'weirgatelaw07.RangesReadAsSpecified'. -/
def rangesReadAsSpecifiedCard : Claim7 := { stood := { row := rangesReadAsSpecifiedRow, standIns := [], harness := (true, "65f74722f3faa5b9e4c898ee5e188f621ca216e0b933128694d2da4bc596800c"), looks := true }, kinds := [], alts := [], laidByText := true, laidKinds := [.data, .data, .data, .data, .sentinel, .sentinel, .pinned], laidTests := true, laidLooks := .later }
def RangesReadAsSpecifiedCardSaid : Prop := Claim7.holds Tryz.pinned (.plain (OpenSpec.ofChange rangesReadAsSpecifiedSpec)) rangesReadAsSpecifiedCard

/-- THE TIED CARD OF 'weirgatelaw07.RangesMiss'. -/
def rangesMissCard : Claim7 := { stood := { row := rangesMissRow, standIns := [], harness := (true, "65f74722f3faa5b9e4c898ee5e188f621ca216e0b933128694d2da4bc596800c"), looks := true }, kinds := [], alts := [], laidByText := true, laidKinds := [.data, .data, .data, .data, .sentinel, .sentinel, .pinned], laidTests := true, laidLooks := .later }
def RangesMissCardSaid : Prop := Claim7.holds Tryz.pinned (.plain (OpenSpec.ofChange rangesMissSpec)) rangesMissCard

/-- THE TIED CARD OF 'weirgatelaw07.RangesCount'. -/
def rangesCountCard : Claim7 := { stood := { row := rangesCountRow, standIns := [], harness := (true, "65f74722f3faa5b9e4c898ee5e188f621ca216e0b933128694d2da4bc596800c"), looks := true }, kinds := [], alts := [], laidByText := true, laidKinds := [.data, .data, .data, .data, .sentinel, .sentinel, .pinned], laidTests := true, laidLooks := .later }
def RangesCountCardSaid : Prop := Claim7.holds Tryz.pinned (.plain (OpenSpec.ofChange rangesCountSpec)) rangesCountCard

/-- THE TIED CARD OF 'weirgatelaw07.RangesComputeAsSpecified'. -/
def rangesComputeAsSpecifiedCard : Claim7 := { stood := { row := rangesComputeAsSpecifiedRow, standIns := [], harness := (true, "65f74722f3faa5b9e4c898ee5e188f621ca216e0b933128694d2da4bc596800c"), looks := true }, kinds := [], alts := [], laidByText := true, laidKinds := [.data, .data, .data, .data, .sentinel, .sentinel, .pinned], laidTests := true, laidLooks := .later }
def RangesComputeAsSpecifiedCardSaid : Prop := Claim7.holds Tryz.pinned (.plain (OpenSpec.ofChange rangesComputeAsSpecifiedSpec)) rangesComputeAsSpecifiedCard

/-- THE SECOND FORM's CARD OF 'weirgatelaw35.EntryMergesAsSpecified'. -/
def entryMergesAsSpecifiedUptoCard : Claim7 := { stood := { row := entryMergesAsSpecifiedUptoRow, standIns := [], harness := (true, "65f74722f3faa5b9e4c898ee5e188f621ca216e0b933128694d2da4bc596800c"), looks := true }, kinds := [], alts := [], laidByText := true, laidKinds := [.data, .data], laidTests := true, laidLooks := .later }
def EntryMergesAsSpecifiedUptoCardSaid : Prop := Claim7.holds Tryz.pinned (.plain (OpenSpec.upto entryMergesAsSpecifiedSpec)) entryMergesAsSpecifiedUptoCard

/-- THE SECOND FORM's CARD OF 'weirgatelaw35.EntryIsWhatItsStampSays'. -/
def entryIsWhatItsStampSaysUptoCard : Claim7 := { stood := { row := entryIsWhatItsStampSaysUptoRow, standIns := [], harness := (true, "65f74722f3faa5b9e4c898ee5e188f621ca216e0b933128694d2da4bc596800c"), looks := true }, kinds := [], alts := [], laidByText := true, laidKinds := [.data, .data], laidTests := true, laidLooks := .later }
def EntryIsWhatItsStampSaysUptoCardSaid : Prop := Claim7.holds Tryz.pinned (.plain (OpenSpec.upto entryIsWhatItsStampSaysSpec)) entryIsWhatItsStampSaysUptoCard

/-- THE SECOND FORM's CARD OF 'weirgatelaw07.RangesReadAsSpecified'. -/
def rangesReadAsSpecifiedUptoCard : Claim7 := { stood := { row := rangesReadAsSpecifiedUptoRow, standIns := [], harness := (true, "65f74722f3faa5b9e4c898ee5e188f621ca216e0b933128694d2da4bc596800c"), looks := true }, kinds := [], alts := [], laidByText := true, laidKinds := [.data, .data, .data, .data, .sentinel, .sentinel, .pinned], laidTests := true, laidLooks := .later }
def RangesReadAsSpecifiedUptoCardSaid : Prop := Claim7.holds Tryz.pinned (.plain (OpenSpec.upto rangesReadAsSpecifiedSpec)) rangesReadAsSpecifiedUptoCard

/-- THE SECOND FORM's CARD OF 'weirgatelaw07.RangesMiss'. -/
def rangesMissUptoCard : Claim7 := { stood := { row := rangesMissUptoRow, standIns := [], harness := (true, "65f74722f3faa5b9e4c898ee5e188f621ca216e0b933128694d2da4bc596800c"), looks := true }, kinds := [], alts := [], laidByText := true, laidKinds := [.data, .data, .data, .data, .sentinel, .sentinel, .pinned], laidTests := true, laidLooks := .later }
def RangesMissUptoCardSaid : Prop := Claim7.holds Tryz.pinned (.plain (OpenSpec.upto rangesMissSpec)) rangesMissUptoCard

/-- THE SECOND FORM's CARD OF 'weirgatelaw07.RangesCount'. -/
def rangesCountUptoCard : Claim7 := { stood := { row := rangesCountUptoRow, standIns := [], harness := (true, "65f74722f3faa5b9e4c898ee5e188f621ca216e0b933128694d2da4bc596800c"), looks := true }, kinds := [], alts := [], laidByText := true, laidKinds := [.data, .data, .data, .data, .sentinel, .sentinel, .pinned], laidTests := true, laidLooks := .later }
def RangesCountUptoCardSaid : Prop := Claim7.holds Tryz.pinned (.plain (OpenSpec.upto rangesCountSpec)) rangesCountUptoCard

/-- THE SECOND FORM's CARD OF 'weirgatelaw07.RangesComputeAsSpecified'. -/
def rangesComputeAsSpecifiedUptoCard : Claim7 := { stood := { row := rangesComputeAsSpecifiedUptoRow, standIns := [], harness := (true, "65f74722f3faa5b9e4c898ee5e188f621ca216e0b933128694d2da4bc596800c"), looks := true }, kinds := [], alts := [], laidByText := true, laidKinds := [.data, .data, .data, .data, .sentinel, .sentinel, .pinned], laidTests := true, laidLooks := .later }
def RangesComputeAsSpecifiedUptoCardSaid : Prop := Claim7.holds Tryz.pinned (.plain (OpenSpec.upto rangesComputeAsSpecifiedSpec)) rangesComputeAsSpecifiedUptoCard
end Rows
end Go.Proofs.YthhblgjbgjceiaaGreatDoor
