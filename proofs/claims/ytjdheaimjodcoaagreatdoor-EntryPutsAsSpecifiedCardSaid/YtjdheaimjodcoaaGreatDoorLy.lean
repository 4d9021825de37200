/- Layings of the shelf. -/
import Derived.Test.YtjdheaimjodcoaaGreatDoorProg
import Derived.Shelf.SlSortCmp.WholeK
import Derived.Shelf.SlicesE.Clone
import Derived.Shelf.Lay
import Derived.Shelf.SlGeneric
import Derived.Ground.SlsfProg
import Derived.Ground.SlgnProg
set_option linter.unusedVariables false
set_option linter.unusedSimpArgs false
namespace Go.Proofs
open Go.Shelf
shelf_lay_g SlLaysF0.n6 Slsf 6 at Tryz 172 as Tryz.sortSp
shelf_lay_g SlLaysE0.n41 Slgn 41 at Tryz 61 as Tryz.cloneSp
end Go.Proofs
