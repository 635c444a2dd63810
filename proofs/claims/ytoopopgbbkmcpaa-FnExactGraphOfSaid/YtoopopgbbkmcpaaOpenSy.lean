/- Systems of rules, opened. -/
import Derived.Test.YtoopopgbbkmcpaaOpenF
import Derived.Test.YtoopopgbbkmcpaaSys
namespace Go.Proofs.Ytoopopgbbkmcpaa
open Go.ChangeShapes Go.WideShapes Go.ChangeAt Go.RowKit Go.Joins Go.Deep
set_option linter.unusedSimpArgs false
set_option linter.unusedVariables false
set_option linter.constructorNameAsVariable false
section
variable {H : Type} {enc : TypeId × Value → H} {w : World} {base b0 : Nat} {held : Bool} {r : Reach}
set_option maxRecDepth 100000 in
theorem raw_rules {fuel : Nat} {cs : List Value} {x : DataW H × List MemPlace} (h : DataW.trod enc Try.prog w base (fun _ => true) held fuel 25 cs = some x) : ∃ A n c rs, cs = [.slice A n c] ∧ RRJ w A n rs := by
  rcases open_slice_fields Try.underlying25 Try.underlying92 (by kernel_rfl) (by kernel_rfl) h with ⟨hcs, _⟩ | ⟨a, len, cap, m, D, Q, hcs, _, hl, hm, hmm, _, hi⟩
  · exact ⟨none, 0, 0, [], hcs, ⟨rfl, by omega⟩, fun h => by omega⟩
  · simp only [if_true] at hmm
    have hone : ∀ i, ∃ p : Ru, i < len → (∃ A n c, w.cell? (a.add (i * 2)) = some (.slice A n c) ∧ RJ w A n p.l) ∧ (∃ A n c, w.cell? (a.add (i * 2 + 1)) = some (.slice A n c) ∧ RJ w A n p.r) := by
      intro i
      by_cases hlt : i < len
      · obtain ⟨ys, n, _, _, _, hf⟩ := hi i (by omega)
        obtain ⟨v0, y0, hc0, _, ht0⟩ := hf 0 _ rfl
        obtain ⟨v1, y1, hc1, _, ht1⟩ := hf 1 _ rfl
        obtain ⟨A, n0, c0, zs, e0, r0⟩ := raw_ints Try.underlying22 Try.underlying2 (by kernel_rfl) ht0
        obtain ⟨B, n1, c1, xs, e1, r1⟩ := raw_ints Try.underlying22 Try.underlying2 (by kernel_rfl) ht1
        simp at e0 e1
        subst e0 e1
        exact ⟨⟨zs, xs⟩, fun _ => ⟨⟨A, n0, c0, hc0, r0⟩, ⟨B, n1, c1, hc1, r1⟩⟩⟩
      · exact ⟨⟨[], []⟩, fun h => absurd h hlt⟩
    obtain ⟨f, hf⟩ := Classical.axiomOfChoice hone
    refine ⟨some a, len, cap, (List.range len).map f, hcs, ⟨by simp, by unfold maxLen at hm; omega⟩, fun hn => ?_⟩
    obtain ⟨b, o, spot⟩ := a
    have hspot : spot = none := by
      obtain ⟨⟨A, n, c, h1, _⟩, _⟩ := hf 0 hn
      simpa [Addr.add] using World.cell?_spot h1
    subst hspot
    refine ⟨b, o, rfl, fun j p hp => ?_⟩
    rw [List.getElem?_map] at hp
    obtain ⟨i, hi', rfl⟩ := Option.map_eq_some_iff.1 hp
    obtain ⟨hl', rfl⟩ := List.getElem?_eq_some_iff.1 hi'
    rw [List.getElem_range]
    rw [List.length_range] at hl'
    have := hf j hl'
    rw [Addr.add_lit, Addr.add_lit] at this
    exact this
set_option maxRecDepth 100000 in
theorem raw_Sy {v : Value} {d : DataW H} {p : List MemPlace} (hv : Value.okWide Try.prog w r b0 27 v) (h : DataW.Trod enc Try.prog w base (fun _ => true) held 27 v d p) : ∃ x, RawSy w v x := by
  obtain ⟨v0, v1, y0, y1, n, rfl, _, _, h0, h1⟩ := open_agg2 Try.underlying27 (by kernel_rfl) (by kernel_rfl) hv h
  obtain ⟨xs, n', _, _, _, hlen, hg⟩ := DataW.trod_struct Try.underlying24 h0
  have h00 := hg 0 _ rfl
  obtain ⟨B, m, c1, rs, e1, r1⟩ := raw_rules h1
  match xs, hlen, h00 with
  | [x0], _, h00 =>
    have h01 : DataW.trod enc Try.prog w base (fun _ => true) held n' 22 [v0] = some x0 := h00
    obtain ⟨A, n0, c0, zs, e0, r0⟩ := raw_ints Try.underlying22 Try.underlying2 (by kernel_rfl) h01
    simp at e0 e1
    subst e0 e1
    exact ⟨⟨zs, rs⟩, RawSy.mk r0 r1⟩
end

end Go.Proofs.Ytoopopgbbkmcpaa
