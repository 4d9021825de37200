/- PROVED: weirgatelaw35.EntryPutsAsSpecified returns true for every stamp, entry, number, bytes and span, and leaves its arguments as they were; the two tables of constants of the hashes hold what the program's text lays (the card ties them). No other condition. -/
import Derived.Test.YtjdheaimjodcoaaGreatDoorProg
import Derived.Test.YtjdheaimjodcoaaGreatDoorExt
import Derived.WalkKit
import Derived.WalkSpells
import Derived.WalkLawsBesides
import Derived.Deep.QuietTactic
import Derived.BigQuiet
import Derived.Test.YtjdheaimjodcoaaGreatDoorQp
import Derived.Test.YtjdheaimjodcoaaGreatDoorQf
import Derived.Test.YtjdheaimjodcoaaGreatDoorTie
import Derived.Test.YtjdheaimjodcoaaGreatDoorCards
import Derived.ProofKit
import Derived.Lay
import Derived.ChangeMaps5
import Derived.SevenTiedAt
import Derived.Stop.Joined
set_option linter.unusedVariables false
set_option linter.unusedSimpArgs false
namespace Go.Proofs.YtjdheaimjodcoaaGreatDoor
open Go.ChangeShapes Go.WideShapes Go.ChangeAt Go.ChangeMaps Go.RowKit
open Go.Proofs

theorem entryPutsAsSpecified_holds : Rows.EntryPutsAsSpecifiedSaid :=
  OpenClaim.holds_of_wide 8 Tryz.f8 rfl rfl rfl rfl rfl rfl rfl ⟨rfl, rfl, rfl, rfl, rfl⟩ rfl rfl rfl rfl rfl (by kernel_rfl) Tryz.func8 entryPutsAsSpecified_facts
    (of_decide_eq_true (by kernel_rfl)) (by unfold Func.isWrapper; first | (rw [if_pos (by decide +kernel)]; kernel_rfl) | (rw [if_neg (by decide +kernel)]; exact ⟨rfl, rfl⟩))
    (fun os started H enc _ => entryPutsAsSpecified_lifted os started H enc)
theorem entryPutsAsSpecified_card : Rows.EntryPutsAsSpecifiedCardSaid :=
  Claim7.holds_tied_plain_at .later [] [.data, .data, .data, .pinned] true (true, "54d3b63e45994d8158d8599cc0b1a7d5a25ee8254c3033fcb1c9dc483d8329c8") false
    entryPutsAsSpecified_holds (fun _ h => by cases h) (by kernel_rfl) (fun _ h => by cases h) entryPutsAsSpecified_row_tie rfl ⟨rfl, rfl⟩ (by kernel_rfl) rfl
    (fun f fn hf hfn => by
      obtain rfl : f = 8 := Option.some.inj ((show Tryz.prog.funcNamed "weirgate/weirgatelaw35.EntryPutsAsSpecified" = some 8 by kernel_rfl).symm.trans hf) |>.symm
      obtain rfl : fn = Tryz.f8 := (Option.some.inj (Tryz.func8.symm.trans hfn)).symm
      exact ⟨by kernel_rfl, fun j t ht => by
        rw [Tryz.params8] at ht
        have hm : t ∈ [48, 56, 3, 9, 26] := by simpa using Array.mem_of_getElem? ht
        have hall : ([48, 56, 3, 9, 26].all fun u => !Tryz.prog.wantsStandIn u) = true := by kernel_rfl
        exact (show Tryz.prog.wantsStandIn t = false by simpa using List.all_eq_true.1 hall t hm)⟩)
    (by kernel_rfl)
#print axioms entryPutsAsSpecified_card
end Go.Proofs.YtjdheaimjodcoaaGreatDoor
