/- Operations, one law a kind and type. -/
import Derived.Test.YtgechlgdnnpoeaaWalk
import Derived.Test.YtgechlgdnnpoeaaEng
import Derived.WalkKit
import Derived.Test.YtgechlgdnnpoeaaKOps
import Derived.Test.YtgechlgdnnpoeaaKOps2
namespace Go.Proofs.Ytgechlgdnnpoeaa
open Go.RowKit Go
set_option maxRecDepth 100000



end Go.Proofs.Ytgechlgdnnpoeaa
