/- The shelf's contracts that few texts need, cut out of the laid shelf text. Conditions: none. -/
import Derived.Test.YtgnfobnkhjlbbaaGreatSh1
import Derived.Test.YtgnfobnkhjlbbaaGreatSh0
import Derived.Test.YtgnfobnkhjlbbaaGreatProg
namespace Go.Proofs
open Go.Shelf
end Go.Proofs
