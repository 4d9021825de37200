
import Derived.WalkKit
import Derived.WalkSpells
import Derived.WalkLawsBesides
import Derived.Deep.QuietTactic
import Derived.BigQuiet
import Derived.Test.YtpfhmcdcmepfdaaGreatDoorUWf
import Derived.Test.YtpfhmcdcmepfdaaGreatDoorUXc
import Derived.RegionTactic
set_option linter.unusedVariables false
set_option linter.unusedSimpArgs false
namespace Go.Proofs.YtpfhmcdcmepfdaaGreatDoor
open Go.RowKit Go.Shelf
open Go.Proofs
def oneVer (x : Value) : Sem Next := do pure (.value (← Instr.buildSlice 102 1 #[(0, x)]))
theorem oneVer_x (ρ : Operand → Value) (dst : Option Tmp) (x : Operand) (t : TypeId) (pos : String) (after : Array Edge) (guard : Option (Nat × Bool)) : execOp ρ { dst, op := .buildSlice 102 1 #[(0, x)], type := t, pos, after, guard } = oneVer (ρ x) := by kernel_rfl
attribute [local go_sem ↓] oneVer_x
end Go.Proofs.YtpfhmcdcmepfdaaGreatDoor

namespace Go.Proofs.YtpfhmcdcmepfdaaGreatDoor
open Go.RowKit Go.Shelf
open Go.Proofs
def ansBy (x0 x1 x2 x4 x5 : Value) : Sem Next := do pure (.value (← Instr.build 27 #[(0, x0), (1, x1), (2, x2), (4, x4), (5, x5)]))
theorem ansBy_x (ρ : Operand → Value) (dst : Option Tmp) (x0 x1 x2 x4 x5 : Operand) (t : TypeId) (pos : String) (after : Array Edge) (guard : Option (Nat × Bool)) : execOp ρ { dst, op := .build 27 #[(0, x0), (1, x1), (2, x2), (4, x4), (5, x5)], type := t, pos, after, guard } = ansBy (ρ x0) (ρ x1) (ρ x2) (ρ x4) (ρ x5) := by kernel_rfl
def kyB4 (x0 x1 x2 x4 : Value) : Sem Next := do pure (.value (← Instr.build 23 #[(0, x0), (1, x1), (2, x2), (4, x4)]))
theorem kyB4_x (ρ : Operand → Value) (dst : Option Tmp) (x0 x1 x2 x4 : Operand) (t : TypeId) (pos : String) (after : Array Edge) (guard : Option (Nat × Bool)) : execOp ρ { dst, op := .build 23 #[(0, x0), (1, x1), (2, x2), (4, x4)], type := t, pos, after, guard } = kyB4 (ρ x0) (ρ x1) (ρ x2) (ρ x4) := by kernel_rfl
theorem kyB4_run (p s u : Int) (z : ByteArray) (W : World) : (kyB4 (.int .i64 p) (.int .i64 s) (.string z) (.int .i64 u)).run Tryz.prog W = .ok (.value (.agg (kyC ⟨p, s, z, 0, u⟩))) W := by kernel_rfl
attribute [go_sem ↓] kyB4_x
attribute [go_sem] kyB4_run
def digB0 : Sem Next := do pure (.value (← Instr.build 25 #[]))
theorem digB0_x (ρ : Operand → Value) (dst : Option Tmp) (t : TypeId) (pos : String) (after : Array Edge) (guard : Option (Nat × Bool)) : execOp ρ { dst, op := .build 25 #[], type := t, pos, after, guard } = digB0 := by kernel_rfl
theorem digB0_run (W : World) : digB0.run Tryz.prog W = .ok (.value (.agg (dgC (zeros32 16)))) W := by kernel_rfl
attribute [go_sem ↓] digB0_x
attribute [go_sem] digB0_run
attribute [go_sem ↓] ansBy_x
theorem reads_freshAt {α : Type} {size : Nat} {enc : α → List Value} (E : EncTy enc size) (l : List α) (W : World) (cs : Array Value) (t : TypeId) (b : Nat) (hb : b = W.heap.size) (h : cs.toList = l.flatMap enc) : Reads size enc (W.alloc (.cells cs t)) (W.alloc (.cells cs t)).heap.size (some ⟨b, 0, none⟩) l := by
 subst hb
 exact reads_fresh E l W cs t h
end Go.Proofs.YtpfhmcdcmepfdaaGreatDoor