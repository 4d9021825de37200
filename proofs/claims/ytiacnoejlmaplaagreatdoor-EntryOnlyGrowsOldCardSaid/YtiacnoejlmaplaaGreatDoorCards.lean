/-
  DERIVED. GIVEN WITH THE SEED: THE CARDS: each row of YtiacnoejlmaplaaGreatDoorRows.lean that lists a variable, with what it lists TIED to the program's text (the seventh form; the later family's looks); each row that meets fmt, with fmt's text TOLD by the authors' own Lean function (tested against real Go, not proved from fmt's source: count such statements apart). THE CARD IS WHAT COUNTS. Prove the row's statement (the work); the ties are given (YtiacnoejlmaplaaGreatDoorTie.lean); close each card by the builder's one call (the guide's Derived/Test/ToyasCard.lean, 'card_holds'). Laid BY PROGRAM, IN A SANDBOX (cutbox-door.mjs). By AI agents, Wed Nov 11 2026. No macro, syntax, notation, axiom, sorry.
-/
import Derived.Test.YtiacnoejlmaplaaGreatDoorRows
import GoSem.ClaimSeven
namespace Go.Proofs.YtiacnoejlmaplaaGreatDoor
namespace Rows

/-- THE TIED CARD OF 'weirgatelaw35.EntryOnlyGrowsOld'. -/
def entryOnlyGrowsOldCard : Claim7 := { stood := { row := entryOnlyGrowsOldRow, standIns := [], harness := (true, "2871ac4b45b9498930140d65cbf4682331741e4557a9af76684163170be13575"), looks := false }, kinds := [], alts := [], laidByText := true, laidKinds := [.data, .data], laidTests := true, laidLooks := .later }
def EntryOnlyGrowsOldCardSaid : Prop := Claim7.holds Tryz.pinned (.plain (OpenSpec.ofChange entryOnlyGrowsOldSpec)) entryOnlyGrowsOldCard

/-- THE TIED CARD OF 'weirgatelaw35.EntryJudgesAsSpecified'. -/
def entryJudgesAsSpecifiedCard : Claim7 := { stood := { row := entryJudgesAsSpecifiedRow, standIns := [], harness := (true, "2871ac4b45b9498930140d65cbf4682331741e4557a9af76684163170be13575"), looks := false }, kinds := [], alts := [], laidByText := true, laidKinds := [.data, .data], laidTests := true, laidLooks := .later }
def EntryJudgesAsSpecifiedCardSaid : Prop := Claim7.holds Tryz.pinned (.plain (OpenSpec.ofChange entryJudgesAsSpecifiedSpec)) entryJudgesAsSpecifiedCard

/-- THE TIED CARD OF 'weirgatelaw35.EntryPutsAsSpecified'. -/
def entryPutsAsSpecifiedCard : Claim7 := { stood := { row := entryPutsAsSpecifiedRow, standIns := [], harness := (true, "2871ac4b45b9498930140d65cbf4682331741e4557a9af76684163170be13575"), looks := false }, kinds := [], alts := [], laidByText := true, laidKinds := [.data, .data, .data, .pinned], laidTests := true, laidLooks := .later }
def EntryPutsAsSpecifiedCardSaid : Prop := Claim7.holds Tryz.pinned (.plain (OpenSpec.ofChange entryPutsAsSpecifiedSpec)) entryPutsAsSpecifiedCard

/-- THE SECOND FORM's CARD OF 'weirgatelaw35.EntryOnlyGrowsOld'. -/
def entryOnlyGrowsOldUptoCard : Claim7 := { stood := { row := entryOnlyGrowsOldUptoRow, standIns := [], harness := (true, "2871ac4b45b9498930140d65cbf4682331741e4557a9af76684163170be13575"), looks := false }, kinds := [], alts := [], laidByText := true, laidKinds := [.data, .data], laidTests := true, laidLooks := .later }
def EntryOnlyGrowsOldUptoCardSaid : Prop := Claim7.holds Tryz.pinned (.plain (OpenSpec.upto entryOnlyGrowsOldSpec)) entryOnlyGrowsOldUptoCard

/-- THE SECOND FORM's CARD OF 'weirgatelaw35.EntryJudgesAsSpecified'. -/
def entryJudgesAsSpecifiedUptoCard : Claim7 := { stood := { row := entryJudgesAsSpecifiedUptoRow, standIns := [], harness := (true, "2871ac4b45b9498930140d65cbf4682331741e4557a9af76684163170be13575"), looks := false }, kinds := [], alts := [], laidByText := true, laidKinds := [.data, .data], laidTests := true, laidLooks := .later }
def EntryJudgesAsSpecifiedUptoCardSaid : Prop := Claim7.holds Tryz.pinned (.plain (OpenSpec.upto entryJudgesAsSpecifiedSpec)) entryJudgesAsSpecifiedUptoCard

/-- THE SECOND FORM's CARD OF 'weirgatelaw35.EntryPutsAsSpecified'. -/
def entryPutsAsSpecifiedUptoCard : Claim7 := { stood := { row := entryPutsAsSpecifiedUptoRow, standIns := [], harness := (true, "2871ac4b45b9498930140d65cbf4682331741e4557a9af76684163170be13575"), looks := false }, kinds := [], alts := [], laidByText := true, laidKinds := [.data, .data, .data, .pinned], laidTests := true, laidLooks := .later }
def EntryPutsAsSpecifiedUptoCardSaid : Prop := Claim7.holds Tryz.pinned (.plain (OpenSpec.upto entryPutsAsSpecifiedSpec)) entryPutsAsSpecifiedUptoCard
end Rows
end Go.Proofs.YtiacnoejlmaplaaGreatDoor
