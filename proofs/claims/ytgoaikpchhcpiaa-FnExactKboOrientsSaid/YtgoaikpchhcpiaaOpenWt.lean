import Derived.Test.YtgoaikpchhcpiaaOpenT
import Derived.Test.YtgoaikpchhcpiaaWt
namespace Go.Proofs.Ytgoaikpchhcpiaa
open Go.ChangeShapes Go.WideShapes Go.ChangeAt Go.RowKit Go.Joins Go.Deep
set_option linter.unusedSimpArgs false
set_option linter.unusedVariables false
set_option linter.constructorNameAsVariable false
section
variable {H : Type} {enc : TypeId × Value → H} {w : World} {base b0 : Nat} {held : Bool} {r : Reach}
set_option maxRecDepth 100000 in
theorem raw_Wt {v : Value} {d : DataW H} {p : List MemPlace} (hv : Value.okWide Try.prog w r b0 26 v) (h : DataW.Trod enc Try.prog w base (fun _ => true) held 26 v d p) : ∃ x, RawWt w v x := by
  obtain ⟨v0, v1, v2, y0, y1, y2, n, rfl, _, _, h0, h1, h2⟩ := open_agg3 Try.underlying26 (by kernel_rfl) (by kernel_rfl) hv h
  obtain ⟨a, e0, _, wa⟩ := DataW.trod_int Try.underlying2 h0
  obtain ⟨A, n1, c1, xs, e1, r1⟩ := raw_ints Try.underlying22 Try.underlying2 (by kernel_rfl) h1
  obtain ⟨B, n2, c2, ys, e2, r2⟩ := raw_ints Try.underlying22 Try.underlying2 (by kernel_rfl) h2
  simp at e0 e1 e2
  subst e0 e1 e2
  refine ⟨⟨a, xs, ys⟩, ⟨A, n1, c1, B, n2, c2, rfl, r1, r2⟩, ?_⟩
  simp only [Lit.wf, IntKind.min, IntKind.max, IntKind.bits, IntKind.signed] at wa
  simp at wa
  show _ ≤ a ∧ a ≤ _
  omega
end
end Go.Proofs.Ytgoaikpchhcpiaa
