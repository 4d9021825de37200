/- PROVED: weirgatelaw34.OriginStampsAreTrue returns true for every timeline, faults, key, instant, numbers and digest, and leaves its arguments as they were; the listed tables hold what the program's text lays (the card ties them). No other condition. -/
import Derived.Test.YtpjacgcaibaggaaGreatDoorProg
import Derived.Test.YtpjacgcaibaggaaGreatDoorKSpv
import Derived.WalkKit
import Derived.WalkSpells
import Derived.WalkLawsBesides
import Derived.Deep.QuietTactic
import Derived.BigQuiet
import Derived.Test.YtpjacgcaibaggaaGreatDoorKZvp
import Derived.Test.YtpjacgcaibaggaaGreatDoorKZvf
import Derived.Test.YtpjacgcaibaggaaGreatDoorTie
import Derived.Test.YtpjacgcaibaggaaGreatDoorCards
import Derived.ProofKit
import Derived.Lay
import Derived.ChangeMaps5
import Derived.SevenTiedAt
import Derived.Stop.Joined
set_option linter.unusedVariables false
set_option linter.unusedSimpArgs false
namespace Go.Proofs.YtpjacgcaibaggaaGreatDoor
open Go.ChangeShapes Go.WideShapes Go.ChangeAt Go.ChangeMaps Go.RowKit
open Go.Proofs

theorem originStampsAreTrue_holds : Rows.OriginStampsAreTrueSaid :=
  OpenClaim.holds_of_wide 9 Tryz.f9 rfl rfl rfl rfl rfl rfl rfl ⟨rfl, rfl, rfl, rfl, rfl⟩ rfl rfl rfl rfl rfl (by kernel_rfl) Tryz.func9 originStampsAreTrue_facts
    (of_decide_eq_true (by kernel_rfl)) (by unfold Func.isWrapper; first | (rw [if_pos (by decide +kernel)]; kernel_rfl) | (rw [if_neg (by decide +kernel)]; exact ⟨rfl, rfl⟩))
    (fun os started H enc _ => originStampsAreTrue_lifted os started H enc)
theorem originStampsAreTrue_card : Rows.OriginStampsAreTrueCardSaid :=
  Claim7.holds_tied_plain_at .later [] [.data, .data, .pinned] true (true, "c02ddba274fe9ce7b916a2dc0670028ba2546deda57e5c196441136f5ab63c6e") false
    originStampsAreTrue_holds (fun _ h => by cases h) (by kernel_rfl) (fun _ h => by cases h) originStampsAreTrue_row_tie rfl ⟨rfl, rfl⟩ (by kernel_rfl) rfl
    (fun f fn hf hfn => by
      obtain rfl : f = 9 := Option.some.inj ((show Tryz.prog.funcNamed "weirgate/weirgatelaw34.OriginStampsAreTrue" = some 9 by kernel_rfl).symm.trans hf) |>.symm
      obtain rfl : fn = Tryz.f9 := (Option.some.inj (Tryz.func9.symm.trans hfn)).symm
      exact ⟨by kernel_rfl, fun j t ht => by
        rw [Tryz.params9] at ht
        have hm : t ∈ [22, 68, 79, 3, 5, 5, 5, 24] := by simpa using Array.mem_of_getElem? ht
        have hall : ([22, 68, 79, 3, 5, 5, 5, 24].all fun u => !Tryz.prog.wantsStandIn u) = true := by kernel_rfl
        exact (show Tryz.prog.wantsStandIn t = false by simpa using List.all_eq_true.1 hall t hm)⟩)
    (by kernel_rfl)
#print axioms originStampsAreTrue_card
end Go.Proofs.YtpjacgcaibaggaaGreatDoor
