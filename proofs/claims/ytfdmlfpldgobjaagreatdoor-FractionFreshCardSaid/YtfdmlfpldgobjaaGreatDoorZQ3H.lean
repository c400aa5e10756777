/- The fractions' reference: walks of Add, Sub, Mul, Div. Conditions: none. -/
import Derived.Test.YtfdmlfpldgobjaaGreatDoorZYR
set_option linter.unusedVariables false
set_option linter.unusedSimpArgs false
namespace Go.Proofs.YtfdmlfpldgobjaaGreatDoor
open Go.RowKit Big
end Go.Proofs.YtfdmlfpldgobjaaGreatDoor
