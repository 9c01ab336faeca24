/- The library's SortFunc of bindings, as its contract has it, at this program. -/
import Derived.Test.YtcmfjnadjddboaaProg
import Derived.Shelf.SlSortCmp.WholeK
import Derived.Shelf.SlSortCmp.NoneTotal
import Derived.Ground.SlsfProg
import Derived.Shelf.SlicesG.Cmp
import Derived.Ground.SlgcProg
import Derived.Shelf.Lay
namespace Go.Proofs.Ytcmfjnadjddboaa
open Go.RowKit Go.Sort Go.Shelf Go

shelf_lay_g SlLaysF0.n14 Slsf 14 at Try 61 as Try.lPdqB
shelf_lay_g SlLaysC2.n5 Slgc 5 at Try 42 as Try.lCmpInt
end Go.Proofs.Ytcmfjnadjddboaa
