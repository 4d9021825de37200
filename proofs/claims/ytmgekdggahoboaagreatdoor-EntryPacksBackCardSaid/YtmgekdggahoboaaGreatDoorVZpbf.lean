/- The closed facts on the row of EntryPacksBack, each a lemma of its own. -/
import Derived.Test.YtmgekdggahoboaaGreatDoorRows
import Derived.Test.YtmgekdggahoboaaGreatDoorVSpv
import Derived.WalkKit
import Derived.WalkSpells
import Derived.WalkLawsBesides
import Derived.Deep.QuietTactic
import Derived.BigQuiet
import Derived.ProofKit
import Derived.Lay
import Derived.ChangeMaps5
import Derived.SevenTiedAt
import Derived.MakeChecks
import Derived.OpenShut
import Derived.Stop.Joined
set_option linter.unusedVariables false
set_option linter.unusedSimpArgs false
namespace Go.Proofs.YtmgekdggahoboaaGreatDoor
open Go.ChangeShapes Go.WideShapes Go.ChangeAt Go.ChangeMaps Go.RowKit
open Go.Proofs
set_option maxRecDepth 1000000 in
set_option maxHeartbeats 40000000 in
theorem entryPacksBack_facts : joinedFacts Tryz.checked.prog 7 Tryz.f7 Rows.entryPacksBackSpec Rows.entryPacksBackRow = true := by
 unfold joinedFacts
 repeat' (refine Bool.and_eq_true_iff.2 ⟨?_, ?_⟩)
 all_goals (as_aux_lemma => kernel_rfl)
end Go.Proofs.YtmgekdggahoboaaGreatDoor