/- Layings of the shelf: Trim. -/
import Derived.Test.YtjdheaimjodcoaaGreatDoorProg
import Derived.Shelf.Strings.Trim
import Derived.Shelf.Lay
import Derived.Ground.NamesProg
set_option linter.unusedVariables false
set_option linter.unusedSimpArgs false
namespace Go.Proofs
open Go.Shelf
shelf_lay Lays.n231 Nm 231 at Tryz as Tryz.trimLB
shelf_lay Lays.n232 Nm 232 at Tryz as Tryz.trimRB
end Go.Proofs
