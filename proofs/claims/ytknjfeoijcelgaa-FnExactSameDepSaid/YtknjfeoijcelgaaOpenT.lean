/- The arguments' types of the laws, opened. -/
import Derived.Test.YtknjfeoijcelgaaOpen
import Derived.Test.YtknjfeoijcelgaaRows
namespace Go.Proofs.Ytknjfeoijcelgaa
open Go.ChangeShapes Go.WideShapes Go.ChangeAt Go.RowKit Go.Joins
set_option linter.unusedSimpArgs false
set_option linter.unusedVariables false
set_option linter.constructorNameAsVariable false

theorem own : ownKnob Try.prog.godebug = none := by kernel_rfl
theorem laidOut : laidOutB Try.prog = true := by kernel_rfl

def RawDep (w : World) (v : Value) (p : DepP) : Prop := ∃ A n c B m d, v = .agg #[.slice A n c, .slice B m d, .int .i64 p.rule, .int .i64 p.at_] ∧ RJ w A n p.l ∧ RJ w B m p.r

section
variable {H : Type} {enc : TypeId × Value → H} {w : World} {base b0 : Nat} {held : Bool} {r : Reach}

set_option maxRecDepth 100000 in
theorem raw_Dep {v : Value} {d : DataW H} {p : List MemPlace} (hv : Value.okWide Try.prog w r b0 24 v) (h : DataW.Trod enc Try.prog w base (fun _ => true) held 24 v d p) : ∃ x, RawDep w v x := by
  obtain ⟨v0, v1, v2, v3, y0, y1, y2, y3, n, rfl, _, _, h0, h1, h2, h3⟩ := open_agg4 Try.underlying24 (by kernel_rfl) (by kernel_rfl) hv h
  obtain ⟨A, n0, c0, xs, e0, r0⟩ := raw_ints Try.underlying22 Try.underlying2 (by kernel_rfl) h0
  obtain ⟨B, n1, c1, ys, e1, r1⟩ := raw_ints Try.underlying22 Try.underlying2 (by kernel_rfl) h1
  obtain ⟨a, e2, _, _⟩ := DataW.trod_int Try.underlying2 h2
  obtain ⟨b, e3, _, _⟩ := DataW.trod_int Try.underlying2 h3
  simp at e0 e1 e2 e3
  subst e0 e1 e2 e3
  exact ⟨⟨xs, ys, a, b⟩, A, n0, c0, B, n1, c1, rfl, r0, r1⟩
end

end Go.Proofs.Ytknjfeoijcelgaa
