/- The shelf's contracts that few texts need, cut out of the laid shelf text. Conditions: none. -/
import Derived.Test.YtglailcfgcdagaaGreatSh0
import Derived.Test.YtglailcfgcdagaaGreatProg
namespace Go.Proofs
open Go.Shelf
end Go.Proofs
