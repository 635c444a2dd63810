/- The arguments' types of the laws, opened. -/
import Derived.Test.YtknjfeoijcelgaaOpen
import Derived.Test.YtknjfeoijcelgaaInts
namespace Go.Proofs.Ytknjfeoijcelgaa
open Go.ChangeShapes Go.WideShapes Go.ChangeAt Go.RowKit Go.Joins Go.Deep
set_option linter.unusedSimpArgs false
set_option linter.unusedVariables false
set_option linter.constructorNameAsVariable false

theorem own : ownKnob Try.prog.godebug = none := by kernel_rfl
theorem laidOut : laidOutB Try.prog = true := by kernel_rfl

def RawDep (w : World) (v : Value) (p : DepP) : Prop := ∃ A n c B m d, v = .agg #[.slice A n c, .slice B m d, .int .i64 p.rule, .int .i64 p.at_] ∧ RJ w A n p.l ∧ RJ w B m p.r

section
variable {H : Type} {enc : TypeId × Value → H} {w : World} {base b0 : Nat} {held : Bool} {r : Reach}

set_option maxRecDepth 100000 in
theorem raw_N {v : Value} {d : DataW H} {p : List MemPlace} (hv : Value.okWide Try.prog w r b0 2 v) (h : DataW.Trod enc Try.prog w base (fun _ => true) held 2 v d p) : ∃ x, RawN w v x := by
  obtain ⟨a, rfl, _, _, wa⟩ := open_int Try.underlying2 hv h
  refine ⟨a, rfl, ?_⟩
  simp only [Lit.wf, IntKind.min, IntKind.max, IntKind.bits, IntKind.signed] at wa
  simp at wa
  omega
set_option maxRecDepth 100000 in
theorem raw_I {v : Value} {d : DataW H} {p : List MemPlace} (hv : Value.okWide Try.prog w r b0 22 v) (h : DataW.Trod enc Try.prog w base (fun _ => true) held 22 v d p) : ∃ x, RawI w v x := by
  obtain ⟨a0, len0, cap0, rfl⟩ := okWide_slice Try.underlying22 hv
  obtain ⟨fuel, hf⟩ := h
  obtain ⟨A, n, c, xs, e, r⟩ := raw_ints Try.underlying22 Try.underlying2 (by kernel_rfl) hf
  simp [Value.cells] at e
  obtain ⟨rfl, rfl, rfl⟩ := e
  exact ⟨xs, RawI.mk r⟩
set_option maxRecDepth 100000 in
theorem raw_Sig {v : Value} {d : DataW H} {p : List MemPlace} (hv : Value.okWide Try.prog w r b0 31 v) (h : DataW.Trod enc Try.prog w base (fun _ => true) held 31 v d p) : ∃ x, RawSig w v x := by
  obtain ⟨v0, y0, n, rfl, _, _, h0⟩ := open_agg1 Try.underlying31 (by kernel_rfl) (by kernel_rfl) hv h
  obtain ⟨A, n0, c0, xs, e0, r0⟩ := raw_ints Try.underlying22 Try.underlying2 (by kernel_rfl) h0
  simp at e0
  subst e0
  exact ⟨xs, RawSig.mk r0⟩
set_option maxRecDepth 100000 in
theorem raw_Dep {v : Value} {d : DataW H} {p : List MemPlace} (hv : Value.okWide Try.prog w r b0 24 v) (h : DataW.Trod enc Try.prog w base (fun _ => true) held 24 v d p) : ∃ x, RawDep w v x := by
  obtain ⟨v0, v1, v2, v3, y0, y1, y2, y3, n, rfl, _, _, h0, h1, h2, h3⟩ := open_agg4 Try.underlying24 (by kernel_rfl) (by kernel_rfl) hv h
  obtain ⟨A, n0, c0, xs, e0, r0⟩ := raw_ints Try.underlying22 Try.underlying2 (by kernel_rfl) h0
  obtain ⟨B, n1, c1, ys, e1, r1⟩ := raw_ints Try.underlying22 Try.underlying2 (by kernel_rfl) h1
  obtain ⟨a, e2, _, _⟩ := DataW.trod_int Try.underlying2 h2
  obtain ⟨b, e3, _, _⟩ := DataW.trod_int Try.underlying2 h3
  simp at e0 e1 e2 e3
  subst e0 e1 e2 e3
  exact ⟨⟨xs, ys, a, b⟩, A, n0, c0, B, n1, c1, rfl, r0, r1⟩
end

end Go.Proofs.Ytknjfeoijcelgaa
