/- A slice of slices of integers, opened. -/
import Derived.Test.YtejmlbcafemieaaOpenF
import Derived.Test.YtejmlbcafemieaaSS
namespace Go.Proofs.Ytejmlbcafemieaa
open Go.ChangeShapes Go.WideShapes Go.ChangeAt Go.RowKit Go.Joins Go.Deep
set_option linter.unusedSimpArgs false
set_option linter.unusedVariables false
set_option linter.constructorNameAsVariable false
section
variable {H : Type} {enc : TypeId × Value → H} {w : World} {base b0 : Nat} {held : Bool} {r : Reach}
set_option maxRecDepth 100000 in
theorem raw_rows {fuel : Nat} {cs : List Value} {x : DataW H × List MemPlace} (h : DataW.trod enc Try.prog w base (fun _ => true) held fuel 25 cs = some x) : ∃ A n c xss, cs = [.slice A n c] ∧ RSJ w A n xss := by
  have hC : Try.prog.cellsOf 22 = 1 := by kernel_rfl
  rcases open_slice Try.underlying25 h with ⟨hcs, _⟩ | ⟨a, len, cap, m, n, D, Q, hcs, _, hl, hm, hmm, _, hi⟩
  · exact ⟨none, 0, 0, [], hcs, ⟨rfl, by omega⟩, fun j xs hx => by simp at hx⟩
  · simp only [if_true] at hmm
    have hone : ∀ i, ∃ xs : List Int, i < len → ∃ A' m' c', w.cell? (a.add i) = some (.slice A' m' c') ∧ RJ w A' m' xs := by
      intro i
      by_cases hlt : i < len
      · obtain ⟨cs', hc, ht⟩ := hi i (by omega)
        rw [hC, Nat.mul_one] at hc
        obtain ⟨_, hcl, hat⟩ := World.cells?_some hc
        have h0 := hat 0 (by omega)
        obtain ⟨v0, rfl⟩ : ∃ v0, cs' = [v0] := by
          match cs', hcl with
          | [v0], _ => exact ⟨v0, rfl⟩
        obtain ⟨A, n1, c1, xs, e1, r1⟩ := raw_ints Try.underlying22 Try.underlying2 (by kernel_rfl) ht
        simp at e1
        subst e1
        refine ⟨xs, fun _ => ⟨A, n1, c1, ?_, r1⟩⟩
        rw [show (a.add i).add 0 = a.add i from by simp [Addr.add]] at h0
        simpa using h0
      · exact ⟨[], fun h => absurd h hlt⟩
    obtain ⟨f, hf⟩ := Classical.axiomOfChoice hone
    refine ⟨some a, len, cap, (List.range len).map f, hcs, ⟨by simp, by unfold maxLen at hm; omega⟩, fun j p hp => ?_⟩
    rw [List.getElem?_map] at hp
    obtain ⟨i, hi', rfl⟩ := Option.map_eq_some_iff.1 hp
    obtain ⟨hl', rfl⟩ := List.getElem?_eq_some_iff.1 hi'
    rw [List.getElem_range]
    rw [List.length_range] at hl'
    obtain ⟨A', m', c', h1, h2⟩ := hf j hl'
    obtain ⟨b, o, spot⟩ := a
    have hspot : spot = none := by
      obtain ⟨_, _, _, g1, _⟩ := hf 0 (by omega)
      simpa [Addr.add] using World.cell?_spot g1
    subst hspot
    rw [Addr.add_lit] at h1
    exact ⟨b, o, A', m', c', rfl, h1, h2⟩
set_option maxRecDepth 100000 in
theorem raw_SS {v : Value} {d : DataW H} {p : List MemPlace} (hv : Value.okWide Try.prog w r b0 25 v) (h : DataW.Trod enc Try.prog w base (fun _ => true) held 25 v d p) : ∃ x, RawSS w v x := by
  obtain ⟨a0, len0, cap0, rfl⟩ := okWide_slice Try.underlying25 hv
  obtain ⟨fuel, hf⟩ := h
  obtain ⟨A, n, c, xss, e, r⟩ := raw_rows hf
  simp [Value.cells] at e
  obtain ⟨rfl, rfl, rfl⟩ := e
  exact ⟨xss, RawSS.mk r⟩
end

end Go.Proofs.Ytejmlbcafemieaa
