/- The specification's Valid of a timeline. -/
import Derived.Test.YtpfhmcdcmepfdaaGreatDoorProg
import Derived.Test.YtpfhmcdcmepfdaaGreatDoorKSpv
import Derived.WalkKit
import Derived.WalkSpells
import Derived.WalkLawsBesides
import Derived.Deep.QuietTactic
import Derived.BigQuiet
import Derived.Test.YtpfhmcdcmepfdaaGreatDoorKWa
set_option linter.unusedVariables false
set_option linter.unusedSimpArgs false
namespace Go.Proofs.YtpfhmcdcmepfdaaGreatDoor
open Go.RowKit Go.Shelf
open Go.Proofs

theorem last_z {l : List Ver} {k : Nat} (h : k = 0) : lastOf l k = -1 := by subst h; rfl
theorem last_p {l : List Ver} {k : Nat} (h : 0 < k) (hk : k < l.length) : lastOf l k = (l[k - 1]'(by omega)).fr := by
  have e2 := lastOf_succ (l := l) (k := k - 1) (by omega)
  rw [show k - 1 + 1 = k by omega] at e2
  exact e2
end Go.Proofs.YtpfhmcdcmepfdaaGreatDoor
