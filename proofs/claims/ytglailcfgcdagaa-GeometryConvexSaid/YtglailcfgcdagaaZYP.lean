/- Homographies: walks of the small functions on integers (package and reference). Conditions: none. -/
import Derived.Test.YtglailcfgcdagaaZYE
import Derived.Test.YtglailcfgcdagaaZYM2
import Derived.Test.YtglailcfgcdagaaZYI
import Derived.Test.YtglailcfgcdagaaZYO
set_option linter.unusedVariables false
set_option linter.unusedSimpArgs false
namespace Go.Proofs.Ytglailcfgcdagaa
open Go.RowKit Big
end Go.Proofs.Ytglailcfgcdagaa
/- Homographies: walks of functions on matrices. Conditions: none. -/
namespace Go.Proofs.Ytglailcfgcdagaa
open Go.RowKit Big
end Go.Proofs.Ytglailcfgcdagaa
/- Homographies: walks of size and whole. Conditions: none. -/
namespace Go.Proofs.Ytglailcfgcdagaa
open Go.RowKit Big
end Go.Proofs.Ytglailcfgcdagaa
