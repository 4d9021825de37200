/- PROVED: weirgatelaw32.AccountChangesAreFound returns true for every number, deeds, instant, width, place, kind of change and size of it, and leaves its arguments as they were; the listed tables hold what the program's text lays (the card ties them). No other condition. -/
import Derived.WalkKit
import Derived.WalkSpells
import Derived.WalkLawsBesides
import Derived.Deep.QuietTactic
import Derived.BigQuiet
import Derived.Test.YtpfhmcdcmepfdaaGreatDoorRZchp
import Derived.Test.YtpfhmcdcmepfdaaGreatDoorRZchf
import Derived.ProofKit
import Derived.Lay
import Derived.ChangeMaps5
import Derived.SevenTiedAt
import Derived.Stop.Joined
set_option linter.unusedVariables false
set_option linter.unusedSimpArgs false
namespace Go.Proofs.YtpfhmcdcmepfdaaGreatDoor
open Go.ChangeShapes Go.WideShapes Go.ChangeAt Go.ChangeMaps Go.RowKit
open Go.Proofs
theorem accountChangesAreFound_holds : Rows.AccountChangesAreFoundSaid :=
 OpenClaim.holds_of_wide 7 Tryz.f7 rfl rfl rfl rfl rfl rfl rfl ⟨rfl, rfl, rfl, rfl, rfl⟩ rfl rfl rfl rfl rfl (by kernel_rfl) Tryz.func7 accountChangesAreFound_facts
  (dk (by kernel_rfl)) (by unfold Func.isWrapper; first | (rw [if_pos (by decide +kernel)]; kernel_rfl) | (rw [if_neg (by decide +kernel)]; exact ⟨rfl, rfl⟩))
  (fun os started H enc _ => accountChangesAreFound_lifted os started H enc)
theorem accountChangesAreFound_card : Rows.AccountChangesAreFoundCardSaid :=
 Claim7.holds_tied_plain_at .later [] [.data, .data, .data, .pinned] true (true, "808105260bc8a983611fc436d679d4c79a003a75bb3a9e929c7a6d8bfab1b54c") false
  accountChangesAreFound_holds (fun _ h => by cases h) (by kernel_rfl) (fun _ h => by cases h) accountChangesAreFound_row_tie rfl ⟨rfl, rfl⟩ (by kernel_rfl) rfl
  (fun f fn hf hfn => by
   obtain rfl : f = 7 := Option.some.inj ((show Tryz.prog.funcNamed "weirgate/weirgatelaw32.AccountChangesAreFound" = some 7 by kernel_rfl).symm.trans hf) |>.symm
   obtain rfl : fn = Tryz.f7 := (Option.some.inj (Tryz.func7.symm.trans hfn)).symm
   exact ⟨by kernel_rfl, fun j t ht => by
    rw [Tryz.params7] at ht
    have hm : t ∈ [77, 78, 77, 5, 5, 5, 5] := by simpa using Array.mem_of_getElem? ht
    have hall : ([77, 78, 77, 5, 5, 5, 5].all fun u => !Tryz.prog.wantsStandIn u) = true := by kernel_rfl
    exact (show Tryz.prog.wantsStandIn t = false by simpa using List.all_eq_true.1 hall t hm)⟩)
  (by kernel_rfl)
#print axioms accountChangesAreFound_card
end Go.Proofs.YtpfhmcdcmepfdaaGreatDoor