/-
  DERIVED. GIVEN WITH THE SEED: THE CARDS: each row of YtmgekdggahoboaaGreatDoorRows.lean that lists a variable, with what it lists TIED to the program's text (the seventh form; the later family's looks); each row that meets fmt, with fmt's text TOLD by the authors' own Lean function (tested against real Go, not proved from fmt's source: count such statements apart). THE CARD IS WHAT COUNTS. Prove the row's statement (the work); the ties are given (YtmgekdggahoboaaGreatDoorTie.lean); close each card by the builder's one call (the guide's Derived/Test/ToyasCard.lean, 'card_holds'). Laid BY PROGRAM, IN A SANDBOX (cutbox-door.mjs). By AI agents, Wed Nov 11 2026. No macro, syntax, notation, axiom, sorry.
-/
import Derived.Test.YtmgekdggahoboaaGreatDoorRows
import GoSem.ClaimSeven
namespace Go.Proofs.YtmgekdggahoboaaGreatDoor
namespace Rows

/-- THE TIED CARD OF 'weirgatelaw45.BillsMatchSpec'. -/
def billsMatchSpecCard : Claim7 := { stood := { row := billsMatchSpecRow, standIns := [], harness := (true, "c6b3209dfb27a7045f9b8474c864cf57b48d1b069e1b0f64ba3a4720139c0be6"), looks := true }, kinds := [], alts := [], laidByText := true, laidKinds := [.data, .data, .data, .data, .pinned], laidTests := true, laidLooks := .later }
def BillsMatchSpecCardSaid : Prop := Claim7.holds Tryz.pinned (.plain (OpenSpec.ofChange billsMatchSpecSpec)) billsMatchSpecCard

/-- THE TIED CARD OF 'weirgatelaw45.BillAddsUp'. -/
def billAddsUpCard : Claim7 := { stood := { row := billAddsUpRow, standIns := [], harness := (true, "c6b3209dfb27a7045f9b8474c864cf57b48d1b069e1b0f64ba3a4720139c0be6"), looks := true }, kinds := [], alts := [], laidByText := true, laidKinds := [.data, .data, .data, .data, .pinned], laidTests := true, laidLooks := .later }
def BillAddsUpCardSaid : Prop := Claim7.holds Tryz.pinned (.plain (OpenSpec.ofChange billAddsUpSpec)) billAddsUpCard

/-- THE TIED CARD OF 'weirgatelaw45.BillReducesInAnyOrder'. -/
def billReducesInAnyOrderCard : Claim7 := { stood := { row := billReducesInAnyOrderRow, standIns := [], harness := (true, "c6b3209dfb27a7045f9b8474c864cf57b48d1b069e1b0f64ba3a4720139c0be6"), looks := true }, kinds := [], alts := [], laidByText := true, laidKinds := [.data, .data, .data, .data, .pinned], laidTests := true, laidLooks := .later }
def BillReducesInAnyOrderCardSaid : Prop := Claim7.holds Tryz.pinned (.plain (OpenSpec.ofChange billReducesInAnyOrderSpec)) billReducesInAnyOrderCard

/-- THE TIED CARD OF 'weirgatelaw45.BillListsMatchSpec'. -/
def billListsMatchSpecCard : Claim7 := { stood := { row := billListsMatchSpecRow, standIns := [], harness := (true, "c6b3209dfb27a7045f9b8474c864cf57b48d1b069e1b0f64ba3a4720139c0be6"), looks := true }, kinds := [], alts := [], laidByText := true, laidKinds := [.data, .data, .data, .data, .pinned], laidTests := true, laidLooks := .later }
def BillListsMatchSpecCardSaid : Prop := Claim7.holds Tryz.pinned (.plain (OpenSpec.ofChange billListsMatchSpecSpec)) billListsMatchSpecCard

/-- THE TIED CARD OF 'weirgatelaw35.EntryPacksBack'. -/
def entryPacksBackCard : Claim7 := { stood := { row := entryPacksBackRow, standIns := [], harness := (true, "c6b3209dfb27a7045f9b8474c864cf57b48d1b069e1b0f64ba3a4720139c0be6"), looks := true }, kinds := [], alts := [], laidByText := true, laidKinds := [.data, .data, .data, .pinned], laidTests := true, laidLooks := .later }
def EntryPacksBackCardSaid : Prop := Claim7.holds Tryz.pinned (.plain (OpenSpec.ofChange entryPacksBackSpec)) entryPacksBackCard

/-- THE SECOND FORM's CARD OF 'weirgatelaw45.BillsMatchSpec'. -/
def billsMatchSpecUptoCard : Claim7 := { stood := { row := billsMatchSpecUptoRow, standIns := [], harness := (true, "c6b3209dfb27a7045f9b8474c864cf57b48d1b069e1b0f64ba3a4720139c0be6"), looks := true }, kinds := [], alts := [], laidByText := true, laidKinds := [.data, .data, .data, .data, .pinned], laidTests := true, laidLooks := .later }
def BillsMatchSpecUptoCardSaid : Prop := Claim7.holds Tryz.pinned (.plain (OpenSpec.upto billsMatchSpecSpec)) billsMatchSpecUptoCard

/-- THE SECOND FORM's CARD OF 'weirgatelaw45.BillAddsUp'. -/
def billAddsUpUptoCard : Claim7 := { stood := { row := billAddsUpUptoRow, standIns := [], harness := (true, "c6b3209dfb27a7045f9b8474c864cf57b48d1b069e1b0f64ba3a4720139c0be6"), looks := true }, kinds := [], alts := [], laidByText := true, laidKinds := [.data, .data, .data, .data, .pinned], laidTests := true, laidLooks := .later }
def BillAddsUpUptoCardSaid : Prop := Claim7.holds Tryz.pinned (.plain (OpenSpec.upto billAddsUpSpec)) billAddsUpUptoCard

/-- THE SECOND FORM's CARD OF 'weirgatelaw45.BillReducesInAnyOrder'. -/
def billReducesInAnyOrderUptoCard : Claim7 := { stood := { row := billReducesInAnyOrderUptoRow, standIns := [], harness := (true, "c6b3209dfb27a7045f9b8474c864cf57b48d1b069e1b0f64ba3a4720139c0be6"), looks := true }, kinds := [], alts := [], laidByText := true, laidKinds := [.data, .data, .data, .data, .pinned], laidTests := true, laidLooks := .later }
def BillReducesInAnyOrderUptoCardSaid : Prop := Claim7.holds Tryz.pinned (.plain (OpenSpec.upto billReducesInAnyOrderSpec)) billReducesInAnyOrderUptoCard

/-- THE SECOND FORM's CARD OF 'weirgatelaw45.BillListsMatchSpec'. -/
def billListsMatchSpecUptoCard : Claim7 := { stood := { row := billListsMatchSpecUptoRow, standIns := [], harness := (true, "c6b3209dfb27a7045f9b8474c864cf57b48d1b069e1b0f64ba3a4720139c0be6"), looks := true }, kinds := [], alts := [], laidByText := true, laidKinds := [.data, .data, .data, .data, .pinned], laidTests := true, laidLooks := .later }
def BillListsMatchSpecUptoCardSaid : Prop := Claim7.holds Tryz.pinned (.plain (OpenSpec.upto billListsMatchSpecSpec)) billListsMatchSpecUptoCard

/-- THE SECOND FORM's CARD OF 'weirgatelaw35.EntryPacksBack'. -/
def entryPacksBackUptoCard : Claim7 := { stood := { row := entryPacksBackUptoRow, standIns := [], harness := (true, "c6b3209dfb27a7045f9b8474c864cf57b48d1b069e1b0f64ba3a4720139c0be6"), looks := true }, kinds := [], alts := [], laidByText := true, laidKinds := [.data, .data, .data, .pinned], laidTests := true, laidLooks := .later }
def EntryPacksBackUptoCardSaid : Prop := Claim7.holds Tryz.pinned (.plain (OpenSpec.upto entryPacksBackSpec)) entryPacksBackUptoCard
end Rows
end Go.Proofs.YtmgekdggahoboaaGreatDoor
