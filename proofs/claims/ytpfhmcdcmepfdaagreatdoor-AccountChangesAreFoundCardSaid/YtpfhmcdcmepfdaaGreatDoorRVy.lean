
import Derived.WalkKit
import Derived.WalkSpells
import Derived.WalkLawsBesides
import Derived.Deep.QuietTactic
import Derived.BigQuiet
import Derived.Test.YtpfhmcdcmepfdaaGreatDoorRWa
set_option linter.unusedVariables false
set_option linter.unusedSimpArgs false
namespace Go.Proofs.YtpfhmcdcmepfdaaGreatDoor
open Go.RowKit Go.Shelf
open Go.Proofs
def verFld (v : Value) : Sem Next := do pure (.value (← Instr.field 107 v 2))
theorem verFld_x (ρ : Operand → Value) (dst : Option Tmp) (x : Operand) (t : TypeId) (pos : String) (after : Array Edge) (guard : Option (Nat × Bool)) : execOp ρ { dst, op := .field 107 x 2, type := t, pos, after, guard } = verFld (ρ x) := by kernel_rfl
attribute [go_sem ↓] verFld_x
theorem row_extW {w w' : World} (hx : Ext w w') {b : Nat} (hb : b < w.heap.size) (o n : Nat) : rowOf w' b o n = rowOf w b o n := rowOf_congr (fun i _ => hx.cell (p := ⟨b, o + i, none⟩) hb)
def oneVer (x : Value) : Sem Next := do pure (.value (← Instr.buildSlice 102 1 #[(0, x)]))
theorem oneVer_x (ρ : Operand → Value) (dst : Option Tmp) (x : Operand) (t : TypeId) (pos : String) (after : Array Edge) (guard : Option (Nat × Bool)) : execOp ρ { dst, op := .buildSlice 102 1 #[(0, x)], type := t, pos, after, guard } = oneVer (ρ x) := by kernel_rfl
attribute [local go_sem ↓] oneVer_x
end Go.Proofs.YtpfhmcdcmepfdaaGreatDoor