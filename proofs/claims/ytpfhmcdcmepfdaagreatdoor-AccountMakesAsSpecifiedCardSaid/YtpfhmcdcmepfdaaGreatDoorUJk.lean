
import Derived.WalkKit
import Derived.WalkSpells
import Derived.WalkLawsBesides
import Derived.Deep.QuietTactic
import Derived.BigQuiet
import Derived.Test.YtpfhmcdcmepfdaaGreatDoorUJp
set_option linter.unusedVariables false
set_option linter.unusedSimpArgs false
namespace Go.Proofs.YtpfhmcdcmepfdaaGreatDoor
open Go.RowKit Go.Shelf
open Go.Proofs
theorem cfd_ty : RowTy Tryz.prog 56 38 := ⟨by kernel_rfl, by kernel_rfl⟩
theorem cfd_ld (w : World) (b o : Nat) : (rowLoad 56 38 (.pointer (some ⟨b, o, none⟩))).run Tryz.prog w = rowLoadR Tryz.prog w 56 38 b o (rowOf w b o 38) := run_rowLoad cfd_ty w b o
theorem cfd_st (w : World) (b o : Nat) (cells : Array Value) : (rowStore 56 38 (.pointer (some ⟨b, o, none⟩)) (.agg cells)).run Tryz.prog w = rowStoreR Tryz.prog w 56 38 b o cells (roomOf w b o 38 && fitsRow 38 cells) := run_rowStore cfd_ty w b o cells
theorem cfd_xl (ρ : Operand → Value) (dst : Option Tmp) (x : Operand) (t : TypeId) (pos : String) (after : Array Edge) (guard : Option (Nat × Bool)) : execOp ρ { dst, op := .load 56 x, type := t, pos, after, guard } = rowLoad 56 38 (ρ x) := rfl
theorem cfd_xs (ρ : Operand → Value) (dst : Option Tmp) (x y : Operand) (t : TypeId) (pos : String) (after : Array Edge) (guard : Option (Nat × Bool)) : execOp ρ { dst, op := .store 56 x y, type := t, pos, after, guard } = rowStore 56 38 (ρ x) (ρ y) := rfl
theorem cfd_xa (ρ : Operand → Value) (dst : Option Tmp) (t : TypeId) (pos : String) (after : Array Edge) (guard : Option (Nat × Bool)) : execOp ρ { dst, op := .alloc 56, type := t, pos, after, guard } = rowAlloc 56 := rfl
attribute [go_sem ↓] cfd_xl cfd_xs cfd_xa
attribute [go_sem] cfd_ld cfd_st
def cfdB1 (a : Value) : Sem Next := do pure (.value (← Instr.build 56 #[(1, a)]))
theorem cfdB1_x (ρ : Operand → Value) (dst : Option Tmp) (a : Operand) (t : TypeId) (pos : String) (after : Array Edge) (guard : Option (Nat × Bool)) : execOp ρ { dst, op := .build 56 #[(1, a)], type := t, pos, after, guard } = cfdB1 (ρ a) := by kernel_rfl
attribute [go_sem ↓] cfdB1_x
def cfdB0 (a : Value) : Sem Next := do pure (.value (← Instr.build 56 #[(0, a)]))
theorem cfdB0_x (ρ : Operand → Value) (dst : Option Tmp) (a : Operand) (t : TypeId) (pos : String) (after : Array Edge) (guard : Option (Nat × Bool)) : execOp ρ { dst, op := .build 56 #[(0, a)], type := t, pos, after, guard } = cfdB0 (ρ a) := by kernel_rfl
attribute [go_sem ↓] cfdB0_x
end Go.Proofs.YtpfhmcdcmepfdaaGreatDoor