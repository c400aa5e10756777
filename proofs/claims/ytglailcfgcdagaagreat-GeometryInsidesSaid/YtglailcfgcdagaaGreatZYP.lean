/- Homographies: walks of the small functions on integers (package and reference). Conditions: none. -/
import Derived.Test.YtglailcfgcdagaaGreatZYE
import Derived.Test.YtglailcfgcdagaaGreatZYM2
import Derived.Test.YtglailcfgcdagaaGreatZYI
import Derived.Test.YtglailcfgcdagaaGreatZYO
set_option linter.unusedVariables false
set_option linter.unusedSimpArgs false
namespace Go.Proofs.YtglailcfgcdagaaGreat
open Go.RowKit Big
end Go.Proofs.YtglailcfgcdagaaGreat
/- Homographies: walks of functions on matrices. Conditions: none. -/
namespace Go.Proofs.YtglailcfgcdagaaGreat
open Go.RowKit Big
end Go.Proofs.YtglailcfgcdagaaGreat
/- Homographies: walks of size and whole. Conditions: none. -/
namespace Go.Proofs.YtglailcfgcdagaaGreat
open Go.RowKit Big
end Go.Proofs.YtglailcfgcdagaaGreat
