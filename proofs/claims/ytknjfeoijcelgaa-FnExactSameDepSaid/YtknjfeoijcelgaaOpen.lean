/-
  From the form's reading of an argument to my words: slices of integers, structs by value.
-/
import Derived.Test.YtknjfeoijcelgaaBase
import Derived.Test.YtknjfeoijcelgaaModel
import Derived.ProofKit
import Derived.OpenShut
import Derived.ShutString
import Derived.ChangeOld
import Derived.Lib.SmallJoins
namespace Go.Proofs.Ytknjfeoijcelgaa
open Go.ChangeShapes Go.WideShapes Go.ChangeAt Go.RowKit Go.Joins
set_option linter.unusedSimpArgs false
set_option linter.unusedVariables false

section
variable {H : Type} {enc : TypeId × Value → H} {P : Program} {w : World} {base : Nat} {held : Bool}

theorem raw_ints {t e : TypeId} {fuel : Nat} {cs : List Value} {x : DataW H × List MemPlace} (ht : P.underlying t = some (.slice e)) (he : P.underlying e = some (.int .i64)) (hc : P.cellsOf e = 1)
    (h : DataW.trod enc P w base (fun _ => true) held fuel t cs = some x) : ∃ A n c xs, cs = [.slice A n c] ∧ RJ w A n xs := by
  rcases open_ints ht he hc h with ⟨hcs, _⟩ | ⟨a, len, cap, zs, hcs, _, hl, hm, hz, _, hcell, hwf⟩
  · exact ⟨none, 0, 0, [], hcs, ⟨rfl, by omega⟩, fun h => by omega, by simp⟩
  · simp only [if_true] at hz
    refine ⟨some a, len, cap, zs.take len, hcs, ⟨by rw [List.length_take]; omega, by unfold maxLen at hm; omega⟩, fun hn => ?_, fun x hx => ?_⟩
    · obtain ⟨b, o, spot⟩ := a
      have hspot : spot = none := by
        have := hcell 0 (by omega)
        simpa [Addr.add] using World.cell?_spot this
      subst hspot
      refine ⟨b, o, rfl, fun j x hx => ?_⟩
      have hj : j < len := by have := (List.getElem?_eq_some_iff.1 hx).1; rw [List.length_take] at this; omega
      have hcj := hcell j (by omega)
      rw [List.getElem?_take, if_pos hj] at hx
      rw [Addr.add_lit] at hcj
      rw [hcj, List.getD_eq_getElem?_getD, hx]
      rfl
    · have := hwf x (List.mem_of_mem_take hx)
      simp only [Lit.wf, IntKind.min, IntKind.max, IntKind.bits, IntKind.signed] at this
      simp at this
      omega
end

end Go.Proofs.Ytknjfeoijcelgaa
