/- Geometry: Meet in the reference. Conditions: none. -/
import Derived.Test.YtglailcfgcdagaaZGm3
set_option linter.unusedVariables false
set_option linter.unusedSimpArgs false
namespace Go.Proofs.Ytglailcfgcdagaa
open Go.RowKit Big
end Go.Proofs.Ytglailcfgcdagaa
