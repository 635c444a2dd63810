/- The comparisons of the reference. -/
import Derived.Test.YtafjlimmahcpmaaFormW
-- rd: RdPl RdPs
namespace Go.Proofs.Ytafjlimmahcpmaa
open Go.RowKit
set_option linter.unusedSimpArgs false
set_option linter.unusedVariables false

theorem cmpLess_O (ar : List Int) (ps : List Pl) (s t : List Int) : (polyArgs ar ps s t && cmpLess (form ps (tmOf ar s)) (form ps (tmOf ar t))) = cmpLess (formO ar ps s) (formO ar ps t) := by
  unfold polyArgs formO
  cases polysOk ar ps <;> cases termOk ar s <;> cases termOk ar t <;> simp [cmpLess]
theorem cmpMost_O (ar : List Int) (ps : List Pl) (s t : List Int) : (polyArgs ar ps s t && cmpMost (form ps (tmOf ar s)) (form ps (tmOf ar t))) = cmpMost (formO ar ps s) (formO ar ps t) := by
  unfold polyArgs formO
  cases polysOk ar ps <;> cases termOk ar s <;> cases termOk ar t <;> simp [cmpMost]
theorem Fm.nn {f : Pl} (h : Fm f) : ∀ y ∈ f.cf, 0 ≤ y := fun y hy => (h.1.2 y hy).1

end Go.Proofs.Ytafjlimmahcpmaa
