/- The arguments' types of the laws, opened. -/
import Derived.Test.YtempekmenkeigaaOpen
import Derived.Test.YtempekmenkeigaaInts
namespace Go.Proofs.Ytempekmenkeigaa
open Go.ChangeShapes Go.WideShapes Go.ChangeAt Go.RowKit Go.Joins Go.Deep
set_option linter.unusedSimpArgs false
set_option linter.unusedVariables false
set_option linter.constructorNameAsVariable false

theorem own : ownKnob Try.prog.godebug = none := by kernel_rfl
theorem laidOut : laidOutB Try.prog = true := by kernel_rfl


section
variable {H : Type} {enc : TypeId × Value → H} {w : World} {base b0 : Nat} {held : Bool} {r : Reach}

set_option maxRecDepth 100000 in
theorem raw_N {v : Value} {d : DataW H} {p : List MemPlace} (hv : Value.okWide Try.prog w r b0 2 v) (h : DataW.Trod enc Try.prog w base (fun _ => true) held 2 v d p) : ∃ x, RawN w v x := by
  obtain ⟨a, rfl, _, _, wa⟩ := open_int Try.underlying2 hv h
  refine ⟨a, rfl, ?_⟩
  simp only [Lit.wf, IntKind.min, IntKind.max, IntKind.bits, IntKind.signed] at wa
  simp at wa
  omega
set_option maxRecDepth 100000 in
theorem raw_I {v : Value} {d : DataW H} {p : List MemPlace} (hv : Value.okWide Try.prog w r b0 22 v) (h : DataW.Trod enc Try.prog w base (fun _ => true) held 22 v d p) : ∃ x, RawI w v x := by
  obtain ⟨a0, len0, cap0, rfl⟩ := okWide_slice Try.underlying22 hv
  obtain ⟨fuel, hf⟩ := h
  obtain ⟨A, n, c, xs, e, r⟩ := raw_ints Try.underlying22 Try.underlying2 (by kernel_rfl) hf
  simp [Value.cells] at e
  obtain ⟨rfl, rfl, rfl⟩ := e
  exact ⟨xs, RawI.mk r⟩
set_option maxRecDepth 100000 in
theorem raw_Sig {v : Value} {d : DataW H} {p : List MemPlace} (hv : Value.okWide Try.prog w r b0 24 v) (h : DataW.Trod enc Try.prog w base (fun _ => true) held 24 v d p) : ∃ x, RawSig w v x := by
  obtain ⟨v0, y0, n, rfl, _, _, h0⟩ := open_agg1 Try.underlying24 (by kernel_rfl) (by kernel_rfl) hv h
  obtain ⟨A, n0, c0, xs, e0, r0⟩ := raw_ints Try.underlying22 Try.underlying2 (by kernel_rfl) h0
  simp at e0
  subst e0
  exact ⟨xs, RawSig.mk r0⟩
end

end Go.Proofs.Ytempekmenkeigaa
