/- The shelf's contracts that few texts need, cut out of the laid shelf text. Conditions: none. -/
import Derived.Test.YtglailcfgcdagaaSh0
import Derived.Test.YtglailcfgcdagaaProg
namespace Go.Proofs
open Go.Shelf
end Go.Proofs
