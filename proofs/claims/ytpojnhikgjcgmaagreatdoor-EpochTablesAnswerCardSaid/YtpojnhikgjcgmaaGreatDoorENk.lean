/- epoch.Table: Last; Revoked of a nil table. -/
import Derived.WalkKit
import Derived.WalkSpells
import Derived.WalkLawsBesides
import Derived.Deep.QuietTactic
import Derived.BigQuiet
import Derived.Test.YtpojnhikgjcgmaaGreatDoorENu
import Derived.Test.YtpojnhikgjcgmaaGreatDoorEVw
set_option linter.unusedVariables false
set_option linter.unusedSimpArgs false
namespace Go.Proofs.YtpojnhikgjcgmaaGreatDoor
open Go.RowKit Go.Maps Go.Shelf
open Go.Proofs
theorem last_any (pu pr : Option Nat) (n : Int) (w : World) :
  Calls Tryz.prog 28 #[.agg #[.map pu, .map pr, .int .i64 n]] w fun e w' => e = .returned (.int .i64 n) ∧ Ext w w' := by
 go_enter Tryz.func28, Tryz.ntmps28
 go_wp2
 go_ret
 exact ⟨rfl, (by (with_reducible repeat first|exact eR _|apply eD|apply eN|apply eA|apply eO|apply eS|apply eC);all_goals first|omega|simp <;> omega)⟩
end Go.Proofs.YtpojnhikgjcgmaaGreatDoor