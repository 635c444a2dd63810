/- The arguments' types of the laws, opened. -/
import Derived.Test.YtljbjabgdalabaaOpen
import Derived.Test.YtljbjabgdalabaaInts
namespace Go.Proofs.Ytljbjabgdalabaa
open Go.ChangeShapes Go.WideShapes Go.ChangeAt Go.RowKit Go.Joins Go.Deep
set_option linter.unusedSimpArgs false
set_option linter.unusedVariables false
set_option linter.constructorNameAsVariable false

theorem own : ownKnob Try.prog.godebug = none := by kernel_rfl
theorem laidOut : laidOutB Try.prog = true := by kernel_rfl


section
variable {H : Type} {enc : TypeId × Value → H} {w : World} {base b0 : Nat} {held : Bool} {r : Reach}

set_option maxRecDepth 100000 in
theorem raw_N {v : Value} {d : DataW H} {p : List MemPlace} (hv : Value.okWide Try.prog w r b0 2 v) (h : DataW.Trod enc Try.prog w base (fun _ => true) held 2 v d p) : ∃ x, RawN w v x := by
  obtain ⟨a, rfl, _, _, wa⟩ := open_int Try.underlying2 hv h
  refine ⟨a, rfl, ?_⟩
  simp only [Lit.wf, IntKind.min, IntKind.max, IntKind.bits, IntKind.signed] at wa
  simp at wa
  omega
set_option maxRecDepth 100000 in
theorem raw_I {v : Value} {d : DataW H} {p : List MemPlace} (hv : Value.okWide Try.prog w r b0 27 v) (h : DataW.Trod enc Try.prog w base (fun _ => true) held 27 v d p) : ∃ x, RawI w v x := by
  obtain ⟨a0, len0, cap0, rfl⟩ := okWide_slice Try.underlying27 hv
  obtain ⟨fuel, hf⟩ := h
  obtain ⟨A, n, c, xs, e, r⟩ := raw_ints Try.underlying27 Try.underlying2 (by kernel_rfl) hf
  simp [Value.cells] at e
  obtain ⟨rfl, rfl, rfl⟩ := e
  exact ⟨xs, RawI.mk r⟩
end

end Go.Proofs.Ytljbjabgdalabaa
