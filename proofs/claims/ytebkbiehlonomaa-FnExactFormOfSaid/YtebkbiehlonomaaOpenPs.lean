/- A slice of structs of one-cell fields, opened (the theorem open_slice_fields is the one that extra-structs.md gives to be used); polynomials. -/
import Derived.Test.YtebkbiehlonomaaOpenF
import Derived.Test.YtebkbiehlonomaaPoly
namespace Go.Proofs.Ytebkbiehlonomaa
open Go.ChangeShapes Go.WideShapes Go.ChangeAt Go.RowKit Go.Joins Go.Deep
set_option linter.unusedSimpArgs false
set_option linter.unusedVariables false
set_option linter.constructorNameAsVariable false
section
variable {H : Type} {enc : TypeId × Value → H} {w : World} {base b0 : Nat} {held : Bool} {r : Reach}
set_option maxRecDepth 100000 in
theorem raw_polys {fuel : Nat} {cs : List Value} {x : DataW H × List MemPlace} (h : DataW.trod enc Try.prog w base (fun _ => true) held fuel 25 cs = some x) : ∃ A n c ps, cs = [.slice A n c] ∧ RPJ w A n ps := by
  rcases open_slice_fields Try.underlying25 Try.underlying59 (by kernel_rfl) (by kernel_rfl) h with ⟨hcs, _⟩ | ⟨a, len, cap, m, D, Q, hcs, _, hl, hm, hmm, _, hi⟩
  · exact ⟨none, 0, 0, [], hcs, ⟨rfl, by omega⟩, fun h => by omega⟩
  · simp only [if_true] at hmm
    have hone : ∀ i, ∃ p : Pl, i < len → w.cell? (a.add (i * 2)) = some (.int .i64 p.c) ∧ ∃ A' m' c', w.cell? (a.add (i * 2 + 1)) = some (.slice A' m' c') ∧ RJ w A' m' p.cf := by
      intro i
      by_cases hlt : i < len
      · obtain ⟨ys, n, _, _, _, hf⟩ := hi i (by omega)
        obtain ⟨v0, y0, hc0, _, ht0⟩ := hf 0 _ rfl
        obtain ⟨v1, y1, hc1, _, ht1⟩ := hf 1 _ rfl
        obtain ⟨z, e0, _, _⟩ := DataW.trod_int Try.underlying2 ht0
        obtain ⟨A, n1, c1, xs, e1, r1⟩ := raw_ints Try.underlying22 Try.underlying2 (by kernel_rfl) ht1
        simp at e0 e1
        subst e0 e1
        exact ⟨⟨z, xs⟩, fun _ => ⟨hc0, A, n1, c1, hc1, r1⟩⟩
      · exact ⟨⟨0, []⟩, fun h => absurd h hlt⟩
    obtain ⟨f, hf⟩ := Classical.axiomOfChoice hone
    refine ⟨some a, len, cap, (List.range len).map f, hcs, ⟨by simp, by unfold maxLen at hm; omega⟩, fun hn => ?_⟩
    obtain ⟨b, o, spot⟩ := a
    have hspot : spot = none := by
      have := (hf 0 hn).1
      simpa [Addr.add] using World.cell?_spot this
    subst hspot
    refine ⟨b, o, rfl, fun j p hp => ?_⟩
    rw [List.getElem?_map] at hp
    obtain ⟨i, hi', rfl⟩ := Option.map_eq_some_iff.1 hp
    obtain ⟨hl', rfl⟩ := List.getElem?_eq_some_iff.1 hi'
    rw [List.getElem_range]
    rw [List.length_range] at hl'
    have := hf j hl'
    rw [Addr.add_lit, Addr.add_lit] at this
    exact this
set_option maxRecDepth 100000 in
theorem raw_Ps {v : Value} {d : DataW H} {p : List MemPlace} (hv : Value.okWide Try.prog w r b0 25 v) (h : DataW.Trod enc Try.prog w base (fun _ => true) held 25 v d p) : ∃ x, RawPs w v x := by
  obtain ⟨a0, len0, cap0, rfl⟩ := okWide_slice Try.underlying25 hv
  obtain ⟨fuel, hf⟩ := h
  obtain ⟨A, n, c, ps, e, r⟩ := raw_polys hf
  simp [Value.cells] at e
  obtain ⟨rfl, rfl, rfl⟩ := e
  exact ⟨ps, RawPs.mk r⟩
end

end Go.Proofs.Ytebkbiehlonomaa
