/- A variable inside of symbols without weight; subterms. -/
import Derived.Test.YtljbjabgdalabaaParts
import Derived.Test.YtljbjabgdalabaaWeigh
-- rd: RdWt
namespace Go.Proofs.Ytljbjabgdalabaa
open Go.RowKit
set_option linter.unusedSimpArgs false
set_option linter.unusedVariables false


end Go.Proofs.Ytljbjabgdalabaa
