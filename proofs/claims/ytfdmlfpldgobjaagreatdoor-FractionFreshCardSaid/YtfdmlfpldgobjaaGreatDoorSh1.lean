/- The shelf's contracts that few texts need, cut out of the laid shelf text. Conditions: none. -/
import Derived.Shelf.Slices.Reverse
import Derived.Shelf.Slices.Cells
import Derived.Test.YtfdmlfpldgobjaaGreatDoorSh0
import Derived.Test.YtfdmlfpldgobjaaGreatDoorProg
namespace Go.Proofs
open Go.Shelf
end Go.Proofs
