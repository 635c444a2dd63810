import Derived.Test.YtjmdfjinicbkeaaPolysOk
import Derived.Test.YtjmdfjinicbkeaaRank
import Derived.Test.YtjmdfjinicbkeaaMStrict
-- rd: RdPl RdPs
namespace Go.Proofs.Ytjmdfjinicbkeaa
open Go.RowKit
set_option linter.unusedSimpArgs false
set_option linter.unusedVariables false


end Go.Proofs.Ytjmdfjinicbkeaa
