/- The shelf's contracts that few texts need, cut out of the laid shelf text. Conditions: none. -/
import Derived.Shelf.Slices.Reverse
import Derived.Shelf.Slices.Cells
import Derived.Test.YtfhbigfbeppinaaGreatDoorSh0
import Derived.Test.YtfhbigfbeppinaaGreatDoorProg
namespace Go.Proofs
open Go.Shelf
end Go.Proofs
