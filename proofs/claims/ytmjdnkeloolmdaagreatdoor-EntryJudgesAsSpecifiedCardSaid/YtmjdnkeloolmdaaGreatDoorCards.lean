/-
  DERIVED. GIVEN WITH THE SEED: THE CARDS: each row of YtmjdnkeloolmdaaGreatDoorRows.lean that lists a variable, with what it lists TIED to the program's text (the seventh form; the later family's looks); each row that meets fmt, with fmt's text TOLD by the authors' own Lean function (tested against real Go, not proved from fmt's source: count such statements apart). THE CARD IS WHAT COUNTS. Prove the row's statement (the work); the ties are given (YtmjdnkeloolmdaaGreatDoorTie.lean); close each card by the builder's one call (the guide's Derived/Test/ToyasCard.lean, 'card_holds'). Laid BY PROGRAM, IN A SANDBOX (cutbox-door.mjs). By AI agents, Wed Nov 11 2026. No macro, syntax, notation, axiom, sorry.
-/
import Derived.Test.YtmjdnkeloolmdaaGreatDoorRows
import GoSem.ClaimSeven
namespace Go.Proofs.YtmjdnkeloolmdaaGreatDoor
namespace Rows

/-- THE TIED CARD OF 'weirgatelaw35.EntryOnlyGrowsOld'. -/
def entryOnlyGrowsOldCard : Claim7 := { stood := { row := entryOnlyGrowsOldRow, standIns := [], harness := (true, "c1e17bcfff4b371d9d78046078f987d687d17afeda43603e182fcf11e09436c5"), looks := false }, kinds := [], alts := [], laidByText := true, laidKinds := [.data, .data], laidTests := true, laidLooks := .later }
def EntryOnlyGrowsOldCardSaid : Prop := Claim7.holds Tryz.pinned (.plain (OpenSpec.ofChange entryOnlyGrowsOldSpec)) entryOnlyGrowsOldCard

/-- THE TIED CARD OF 'weirgatelaw35.EntryJudgesAsSpecified'. -/
def entryJudgesAsSpecifiedCard : Claim7 := { stood := { row := entryJudgesAsSpecifiedRow, standIns := [], harness := (true, "c1e17bcfff4b371d9d78046078f987d687d17afeda43603e182fcf11e09436c5"), looks := false }, kinds := [], alts := [], laidByText := true, laidKinds := [.data, .data], laidTests := true, laidLooks := .later }
def EntryJudgesAsSpecifiedCardSaid : Prop := Claim7.holds Tryz.pinned (.plain (OpenSpec.ofChange entryJudgesAsSpecifiedSpec)) entryJudgesAsSpecifiedCard

/-- THE TIED CARD OF 'weirgatelaw34.OriginAnswersAsSpecified'. -/
def originAnswersAsSpecifiedCard : Claim7 := { stood := { row := originAnswersAsSpecifiedRow, standIns := [], harness := (true, "c1e17bcfff4b371d9d78046078f987d687d17afeda43603e182fcf11e09436c5"), looks := false }, kinds := [], alts := [], laidByText := true, laidKinds := [.data, .data, .data, .pinned], laidTests := true, laidLooks := .later }
def OriginAnswersAsSpecifiedCardSaid : Prop := Claim7.holds Tryz.pinned (.plain (OpenSpec.ofChange originAnswersAsSpecifiedSpec)) originAnswersAsSpecifiedCard

/-- THE TIED CARD OF 'weirgatelaw34.OriginTruthIsAsSpecified'. -/
def originTruthIsAsSpecifiedCard : Claim7 := { stood := { row := originTruthIsAsSpecifiedRow, standIns := [], harness := (true, "c1e17bcfff4b371d9d78046078f987d687d17afeda43603e182fcf11e09436c5"), looks := false }, kinds := [], alts := [], laidByText := true, laidKinds := [.data, .data, .data, .pinned], laidTests := true, laidLooks := .later }
def OriginTruthIsAsSpecifiedCardSaid : Prop := Claim7.holds Tryz.pinned (.plain (OpenSpec.ofChange originTruthIsAsSpecifiedSpec)) originTruthIsAsSpecifiedCard

/-- THE TIED CARD OF 'weirgatelaw34.OriginPartsFit'. -/
def originPartsFitCard : Claim7 := { stood := { row := originPartsFitRow, standIns := [], harness := (true, "c1e17bcfff4b371d9d78046078f987d687d17afeda43603e182fcf11e09436c5"), looks := false }, kinds := [], alts := [], laidByText := true, laidKinds := [.data, .data, .pinned], laidTests := true, laidLooks := .later }
def OriginPartsFitCardSaid : Prop := Claim7.holds Tryz.pinned (.plain (OpenSpec.ofChange originPartsFitSpec)) originPartsFitCard

/-- THE SECOND FORM's CARD OF 'weirgatelaw35.EntryOnlyGrowsOld'. -/
def entryOnlyGrowsOldUptoCard : Claim7 := { stood := { row := entryOnlyGrowsOldUptoRow, standIns := [], harness := (true, "c1e17bcfff4b371d9d78046078f987d687d17afeda43603e182fcf11e09436c5"), looks := false }, kinds := [], alts := [], laidByText := true, laidKinds := [.data, .data], laidTests := true, laidLooks := .later }
def EntryOnlyGrowsOldUptoCardSaid : Prop := Claim7.holds Tryz.pinned (.plain (OpenSpec.upto entryOnlyGrowsOldSpec)) entryOnlyGrowsOldUptoCard

/-- THE SECOND FORM's CARD OF 'weirgatelaw35.EntryJudgesAsSpecified'. -/
def entryJudgesAsSpecifiedUptoCard : Claim7 := { stood := { row := entryJudgesAsSpecifiedUptoRow, standIns := [], harness := (true, "c1e17bcfff4b371d9d78046078f987d687d17afeda43603e182fcf11e09436c5"), looks := false }, kinds := [], alts := [], laidByText := true, laidKinds := [.data, .data], laidTests := true, laidLooks := .later }
def EntryJudgesAsSpecifiedUptoCardSaid : Prop := Claim7.holds Tryz.pinned (.plain (OpenSpec.upto entryJudgesAsSpecifiedSpec)) entryJudgesAsSpecifiedUptoCard

/-- THE SECOND FORM's CARD OF 'weirgatelaw34.OriginAnswersAsSpecified'. -/
def originAnswersAsSpecifiedUptoCard : Claim7 := { stood := { row := originAnswersAsSpecifiedUptoRow, standIns := [], harness := (true, "c1e17bcfff4b371d9d78046078f987d687d17afeda43603e182fcf11e09436c5"), looks := false }, kinds := [], alts := [], laidByText := true, laidKinds := [.data, .data, .data, .pinned], laidTests := true, laidLooks := .later }
def OriginAnswersAsSpecifiedUptoCardSaid : Prop := Claim7.holds Tryz.pinned (.plain (OpenSpec.upto originAnswersAsSpecifiedSpec)) originAnswersAsSpecifiedUptoCard

/-- THE SECOND FORM's CARD OF 'weirgatelaw34.OriginTruthIsAsSpecified'. -/
def originTruthIsAsSpecifiedUptoCard : Claim7 := { stood := { row := originTruthIsAsSpecifiedUptoRow, standIns := [], harness := (true, "c1e17bcfff4b371d9d78046078f987d687d17afeda43603e182fcf11e09436c5"), looks := false }, kinds := [], alts := [], laidByText := true, laidKinds := [.data, .data, .data, .pinned], laidTests := true, laidLooks := .later }
def OriginTruthIsAsSpecifiedUptoCardSaid : Prop := Claim7.holds Tryz.pinned (.plain (OpenSpec.upto originTruthIsAsSpecifiedSpec)) originTruthIsAsSpecifiedUptoCard

/-- THE SECOND FORM's CARD OF 'weirgatelaw34.OriginPartsFit'. -/
def originPartsFitUptoCard : Claim7 := { stood := { row := originPartsFitUptoRow, standIns := [], harness := (true, "c1e17bcfff4b371d9d78046078f987d687d17afeda43603e182fcf11e09436c5"), looks := false }, kinds := [], alts := [], laidByText := true, laidKinds := [.data, .data, .pinned], laidTests := true, laidLooks := .later }
def OriginPartsFitUptoCardSaid : Prop := Claim7.holds Tryz.pinned (.plain (OpenSpec.upto originPartsFitSpec)) originPartsFitUptoCard
end Rows
end Go.Proofs.YtmjdnkeloolmdaaGreatDoor
