/- sanity of law 34 (given what Canonical answers at "acme/a"). -/
import Derived.WalkKit
import Derived.WalkSpells
import Derived.WalkLawsBesides
import Derived.Deep.QuietTactic
import Derived.BigQuiet
import Derived.Maps.Own
import Derived.Laws.EntriesVeiled
import Derived.Test.YtpojnhikgjcgmaaGreatDoorEXc
import Derived.RegionTactic
set_option linter.unusedVariables false
set_option linter.unusedSimpArgs false
namespace Go.Proofs.YtpojnhikgjcgmaaGreatDoor
open Go.RowKit Go.Shelf
open Go.Proofs Go.Maps
theorem made_map (t : TypeId) (w : World) : (Instr.makeMap t none).run Tryz.prog w = .ok (.map (some w.heap.size)) (w.alloc (.map #[] 0)) := rfl
attribute [go_sem] made_map
end Go.Proofs.YtpojnhikgjcgmaaGreatDoor

namespace Go.Proofs.YtpojnhikgjcgmaaGreatDoor
open Go.RowKit Go.Shelf
open Go.Proofs
def kyB4 (x0 x1 x2 x4 : Value) : Sem Next := do pure (.value (← Instr.build 44 #[(0, x0), (1, x1), (2, x2), (4, x4)]))
theorem kyB4_x (ρ : Operand → Value) (dst : Option Tmp) (x0 x1 x2 x4 : Operand) (t : TypeId) (pos : String) (after : Array Edge) (guard : Option (Nat × Bool)) : execOp ρ { dst, op := .build 44 #[(0, x0), (1, x1), (2, x2), (4, x4)], type := t, pos, after, guard } = kyB4 (ρ x0) (ρ x1) (ρ x2) (ρ x4) := by kernel_rfl
theorem kyB4_run (p s u : Int) (z : ByteArray) (W : World) : (kyB4 (.int .i64 p) (.int .i64 s) (.string z) (.int .i64 u)).run Tryz.prog W = .ok (.value (.agg (kyC ⟨p, s, z, 0, u⟩))) W := by kernel_rfl
attribute [go_sem ↓] kyB4_x
attribute [go_sem] kyB4_run
def digB0 : Sem Next := do pure (.value (← Instr.build 23 #[]))
theorem digB0_x (ρ : Operand → Value) (dst : Option Tmp) (t : TypeId) (pos : String) (after : Array Edge) (guard : Option (Nat × Bool)) : execOp ρ { dst, op := .build 23 #[], type := t, pos, after, guard } = digB0 := by kernel_rfl
theorem digB0_run (W : World) : digB0.run Tryz.prog W = .ok (.value (.agg (dgC (zeros32 16)))) W := by kernel_rfl
attribute [go_sem ↓] digB0_x
attribute [go_sem] digB0_run
end Go.Proofs.YtpojnhikgjcgmaaGreatDoor