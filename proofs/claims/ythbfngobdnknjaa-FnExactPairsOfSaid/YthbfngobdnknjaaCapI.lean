/- CappedOf of both. -/
import Derived.Test.YthbfngobdnknjaaMCap
import Derived.Test.YthbfngobdnknjaaDepI
import Derived.Test.YthbfngobdnknjaaDepS
-- rd: RdSyK
namespace Go.Proofs.Ythbfngobdnknjaa
open Go.RowKit
set_option linter.unusedSimpArgs false
set_option linter.unusedVariables false


end Go.Proofs.Ythbfngobdnknjaa
