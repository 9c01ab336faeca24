/- The library's Sort, Compact and Contains of integers, as their contracts have it, at this program. -/
import Derived.Test.YtlkiabgpnboicaaProg
import Derived.Shelf.SlGeneric
import Derived.Ground.SlgmProg
import Derived.Shelf.SortM.Plain
import Derived.Shelf.SortM.SortNone
import Derived.Shelf.Slices.CompactI
import Derived.Shelf.Slices.Empties
import Derived.Shelf.Slices.Turned
import Derived.Shelf.Lay
import Derived.Ground.NamesProg
import Derived.Ground.Names2Prog
namespace Go.Proofs.Ytlkiabgpnboicaa
open Go.RowKit Go.Sort Go.Shelf Go

shelf_lay_g SlLaysM.n5 Slgm 5 at Try 63 as Try.lSort
shelf_lay Lays2.n20 Nm2 20 at Try as Try.lCompact
shelf_lay Lays.n107 Nm 107 at Try as Try.lContains
end Go.Proofs.Ytlkiabgpnboicaa
