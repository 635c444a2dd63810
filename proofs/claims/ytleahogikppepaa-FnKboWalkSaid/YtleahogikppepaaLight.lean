import Derived.Test.YtleahogikppepaaWt
-- rd: RdWt RawWt
namespace Go.Proofs.Ytleahogikppepaa
open Go.RowKit
set_option linter.unusedSimpArgs false
set_option linter.unusedVariables false

def ltStep (best a s : Int) : Int := if a = 0 ∧ (best < 0 ∨ s < best) then s else best
def ltK (ar sym : List Int) : Nat → Int
  | 0 => -1
  | k + 1 => ltStep (ltK ar sym k) (ar.getD k 0) (sym.getD k 0)
theorem ltK_succ {ar sym : List Int} {k : Nat} {a s : Int} (ha : ar[k]? = some a) (hs : sym[k]? = some s) : ltK ar sym (k + 1) = ltStep (ltK ar sym k) a s := by
  rw [ltK, List.getD_eq_getElem?_getD, List.getD_eq_getElem?_getD, ha, hs]; rfl
noncomputable def lightestOf (ar : List Int) (t : Wt) : Int := if wtOk ar t = true then ltK ar t.sym t.sym.length else -1


end Go.Proofs.Ytleahogikppepaa
