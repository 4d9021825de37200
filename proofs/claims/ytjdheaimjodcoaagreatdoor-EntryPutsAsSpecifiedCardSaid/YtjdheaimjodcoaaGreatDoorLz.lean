/- Layings of the shelf: integers. -/
import Derived.Test.YtjdheaimjodcoaaGreatDoorProg
import Derived.Shelf.Sort.Plain
import Derived.Shelf.Slices.CompactI
import Derived.Shelf.Spec.SlicesGrow
import Derived.Shelf.Strings.Repeat
import Derived.Shelf.Lay
import Derived.Shelf.SlGeneric
import Derived.Ground.NamesProg
set_option linter.unusedVariables false
set_option linter.unusedSimpArgs false
namespace Go.Proofs
open Go.Shelf
shelf_lay Lays.n189 Nm 189 at Tryz as Tryz.sortI
shelf_lay Lays2.n20 Nm2 20 at Tryz as Tryz.compactI
shelf_lay_g Lays8.n4 Nm8 4 at Tryz 218 as Tryz.growSp
shelf_lay Lays.n105 Nm 105 at Tryz as Tryz.repeatS
end Go.Proofs
