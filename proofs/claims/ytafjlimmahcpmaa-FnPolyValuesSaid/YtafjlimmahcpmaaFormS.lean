/- Forms, by the reference. -/
import Derived.Test.YtafjlimmahcpmaaFormF
import Derived.Test.YtafjlimmahcpmaaParts
-- rd: RdPl RdPs
namespace Go.Proofs.Ytafjlimmahcpmaa
open Go.RowKit
set_option linter.unusedSimpArgs false
set_option linter.unusedVariables false


end Go.Proofs.Ytafjlimmahcpmaa
