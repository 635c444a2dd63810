/- The weight of a term. -/
import Derived.Test.YtempekmenkeigaaWt
import Derived.Test.YtempekmenkeigaaTermOk
import Derived.Test.YtempekmenkeigaaMgA
-- rd: RdWt
namespace Go.Proofs.Ytempekmenkeigaa
open Go.RowKit
set_option linter.unusedSimpArgs false
set_option linter.unusedVariables false

def WB (W : Wt) : Prop := (0 ≤ W.var ∧ W.var ≤ 20) ∧ ∀ s ∈ W.sym, 0 ≤ s ∧ s ≤ 20
theorem WtP.wb {ar : List Int} {W : Wt} (h : WtP ar W) : WB W := by
  obtain ⟨h1, h2, h3, h4⟩ := h
  refine ⟨⟨by omega, h3.2⟩, fun s hs => ?_⟩
  obtain ⟨j, hj, rfl⟩ := List.mem_iff_getElem.1 hs
  have ha : j < ar.length := by omega
  have hr : j < W.rank.length := by rw [h1.2.1]; exact ha
  exact (h4 j _ _ _ (List.getElem?_eq_getElem hj) (List.getElem?_eq_getElem ha) (List.getElem?_eq_getElem hr)).1
theorem WtP.lt {ar t : List Int} {W : Wt} (h : WtP ar W) (hs : ∀ x ∈ t, x < ar.length) : ∀ x ∈ t, x < W.sym.length := fun x hx => by rw [h.2.1]; exact hs x hx
theorem TermP.lt {ar t : List Int} (h : TermP ar t) : ∀ x ∈ t, x < ar.length := by
  obtain ⟨u, h1, rfl⟩ := tree_of h
  exact flat_lt u h1


end Go.Proofs.Ytempekmenkeigaa
