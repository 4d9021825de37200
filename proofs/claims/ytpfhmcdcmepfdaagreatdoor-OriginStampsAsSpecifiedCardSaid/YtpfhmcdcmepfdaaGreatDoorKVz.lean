/- True of the specification. -/
import Derived.Test.YtpfhmcdcmepfdaaGreatDoorProg
import Derived.Test.YtpfhmcdcmepfdaaGreatDoorKSpv
import Derived.WalkKit
import Derived.WalkSpells
import Derived.WalkLawsBesides
import Derived.Deep.QuietTactic
import Derived.BigQuiet
import Derived.Test.YtpfhmcdcmepfdaaGreatDoorKVy
set_option linter.unusedVariables false
set_option linter.unusedSimpArgs false
namespace Go.Proofs.YtpfhmcdcmepfdaaGreatDoor
open Go.RowKit Go.Shelf
open Go.Proofs

def inMean (s : St) (v : Ver) : Bool := decide (s.lo < v.fr) && decide (v.fr ≤ s.hi) && saysB s v
theorem inMean_no1 {s : St} {v : Ver} (h : ¬ s.lo < v.fr) : inMean s v = false := by simp [inMean, h]
theorem inMean_no2 {s : St} {v : Ver} (h : ¬ v.fr ≤ s.hi) : inMean s v = false := by simp [inMean, h]
theorem inMean_is {s : St} {v : Ver} (h1 : s.lo < v.fr) (h2 : v.fr ≤ s.hi) : inMean s v = saysB s v := by simp [inMean, h1, h2]
end Go.Proofs.YtpfhmcdcmepfdaaGreatDoor
