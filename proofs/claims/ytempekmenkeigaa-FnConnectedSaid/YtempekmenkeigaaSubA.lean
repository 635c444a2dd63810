/- The reference: parts of terms, and where arguments begin. -/
import Derived.Test.YtempekmenkeigaaStp
namespace Go.Proofs.Ytempekmenkeigaa
open Go.RowKit
set_option linter.unusedSimpArgs false
set_option linter.unusedVariables false

theorem flatL_lenA : ∀ (us : List Tm), us.length ≤ (flatL us).length
  | [] => Nat.zero_le _
  | a :: us => by rw [flatL_cons, List.length_cons, List.length_append]; have := flat_pos a; have := flatL_lenA us; omega

end Go.Proofs.Ytempekmenkeigaa
