/- PROVED: weirgatelaw35.EntryPutsAsSpecified returns true for every stamp, entry, number, bytes and span, and leaves its arguments as they were; the two tables of constants of the hashes hold what the program's text lays (the card ties them). No other condition. -/
import Derived.Test.YtiacnoejlmaplaaGreatDoorProg
import Derived.Test.YtiacnoejlmaplaaGreatDoorExt
import Derived.WalkKit
import Derived.WalkSpells
import Derived.WalkLawsBesides
import Derived.Deep.QuietTactic
import Derived.BigQuiet
import Derived.Test.YtiacnoejlmaplaaGreatDoorQp
import Derived.Test.YtiacnoejlmaplaaGreatDoorQf
import Derived.Test.YtiacnoejlmaplaaGreatDoorTie
import Derived.Test.YtiacnoejlmaplaaGreatDoorCards
import Derived.ProofKit
import Derived.Lay
import Derived.ChangeMaps5
import Derived.SevenTiedAt
import Derived.Stop.Joined
set_option linter.unusedVariables false
set_option linter.unusedSimpArgs false
namespace Go.Proofs.YtiacnoejlmaplaaGreatDoor
open Go.ChangeShapes Go.WideShapes Go.ChangeAt Go.ChangeMaps Go.RowKit
open Go.Proofs

theorem entryPutsAsSpecified_holds : Rows.EntryPutsAsSpecifiedSaid :=
  OpenClaim.holds_of_wide 5 Tryz.f5 rfl rfl rfl rfl rfl rfl rfl ⟨rfl, rfl, rfl, rfl, rfl⟩ rfl rfl rfl rfl rfl (by kernel_rfl) Tryz.func5 entryPutsAsSpecified_facts
    (of_decide_eq_true (by kernel_rfl)) (by unfold Func.isWrapper; first | (rw [if_pos (by decide +kernel)]; kernel_rfl) | (rw [if_neg (by decide +kernel)]; exact ⟨rfl, rfl⟩))
    (fun os started H enc _ => entryPutsAsSpecified_lifted os started H enc)
theorem entryPutsAsSpecified_card : Rows.EntryPutsAsSpecifiedCardSaid :=
  Claim7.holds_tied_plain_at .later [] [.data, .data, .data, .pinned] true (true, "2871ac4b45b9498930140d65cbf4682331741e4557a9af76684163170be13575") false
    entryPutsAsSpecified_holds (fun _ h => by cases h) (by kernel_rfl) (fun _ h => by cases h) entryPutsAsSpecified_row_tie rfl ⟨rfl, rfl⟩ (by kernel_rfl) rfl
    (fun f fn hf hfn => by
      obtain rfl : f = 5 := Option.some.inj ((show Tryz.prog.funcNamed "weirgate/weirgatelaw35.EntryPutsAsSpecified" = some 5 by kernel_rfl).symm.trans hf) |>.symm
      obtain rfl : fn = Tryz.f5 := (Option.some.inj (Tryz.func5.symm.trans hfn)).symm
      exact ⟨by kernel_rfl, fun j t ht => by
        rw [Tryz.params5] at ht
        have hm : t ∈ [28, 31, 3, 9, 49] := by simpa using Array.mem_of_getElem? ht
        have hall : ([28, 31, 3, 9, 49].all fun u => !Tryz.prog.wantsStandIn u) = true := by kernel_rfl
        exact (show Tryz.prog.wantsStandIn t = false by simpa using List.all_eq_true.1 hall t hm)⟩)
    (by kernel_rfl)
#print axioms entryPutsAsSpecified_card
end Go.Proofs.YtiacnoejlmaplaaGreatDoor
