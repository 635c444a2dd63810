import Derived.Test.YtljbjabgdalabaaMPoly
namespace Go.Proofs.Ytljbjabgdalabaa

/-- Every number at a variable is one at least. -/
def StrictP (ps : List Pl) : Prop := ∀ p ∈ ps, ∀ x ∈ p.cf, 1 ≤ x
noncomputable def strictIn (ar : List Int) (ps : List Pl) : Bool := @decide (PolysP ar ps ∧ StrictP ps) (Classical.propDecidable _)
theorem strictIn_t {ar : List Int} {ps : List Pl} (h : polysOk ar ps = true) (h2 : StrictP ps) : strictIn ar ps = true := by
  simp only [strictIn, decide_eq_true_eq]; exact ⟨polysOk_iff.1 h, h2⟩
theorem strictIn_f {ar : List Int} {ps : List Pl} (h : ¬ StrictP ps) : strictIn ar ps = false := by
  simp only [strictIn, decide_eq_false_iff_not]; exact fun a => h a.2
theorem strictIn_no {ar : List Int} {ps : List Pl} (h : polysOk ar ps = false) : strictIn ar ps = false := by
  simp only [strictIn, decide_eq_false_iff_not]; exact fun a => by rw [polysOk_iff.2 a.1] at h; cases h
def anyZ (ps : List Pl) : Bool := ps.any fun p => decide (0 ∈ p.cf)
theorem anyZ_t {ps : List Pl} {k : Nat} {p : Pl} (h : ps[k]? = some p) (h0 : 0 ∈ p.cf) : anyZ ps = true := by
  simp only [anyZ, List.any_eq_true, decide_eq_true_eq]; exact ⟨p, List.mem_of_getElem? h, h0⟩
theorem anyZ_f {ps : List Pl} {k : Nat} (h : ∀ (j : Nat) (p : Pl), j < k → ps[j]? = some p → ¬ 0 ∈ p.cf) (hk : ps.length ≤ k) : anyZ ps = false := by
  simp only [anyZ, List.any_eq_false, decide_eq_true_eq]
  intro p hp
  obtain ⟨j, hj, rfl⟩ := List.mem_iff_getElem.1 hp
  exact h j _ (by omega) (List.getElem?_eq_getElem hj)
theorem strict_anyZ {ar : List Int} {ps : List Pl} (h : polysOk ar ps = true) : strictIn ar ps = !anyZ ps := by
  cases hz : anyZ ps with
  | true =>
    simp only [anyZ, List.any_eq_true, decide_eq_true_eq] at hz
    obtain ⟨p, hp, h0⟩ := hz
    exact strictIn_f fun a => absurd (a p hp 0 h0) (by omega)
  | false =>
    simp only [anyZ, List.any_eq_false, decide_eq_true_eq] at hz
    refine strictIn_t h fun p hp x hx => ?_
    obtain ⟨j, hj, rfl⟩ := List.mem_iff_getElem.1 hp
    obtain ⟨_, hl, ha⟩ := polysOk_iff.1 h
    have hj' : j < ar.length := by omega
    have := (ha j _ _ (List.getElem?_eq_getElem hj) (List.getElem?_eq_getElem hj')).2.2 x hx
    have h0 : x ≠ 0 := fun e => hz _ hp (e ▸ hx)
    omega
theorem strict_bad {ps : List Pl} {k q : Nat} {p : Pl} {x : Int} (h : ps[k]? = some p) (hx : p.cf[q]? = some x) (h0 : x < 1) : ¬ StrictP ps :=
  fun a => absurd (a p (List.mem_of_getElem? h) x (List.mem_of_getElem? hx)) (by omega)
theorem strict_all {ps : List Pl} {k : Nat} (h : ∀ (j : Nat) (p : Pl), j < k → ps[j]? = some p → ∀ x ∈ p.cf, 1 ≤ x) (hk : ps.length ≤ k) : StrictP ps := by
  intro p hp
  obtain ⟨j, hj, rfl⟩ := List.mem_iff_getElem.1 hp
  exact h j _ (by omega) (List.getElem?_eq_getElem hj)
theorem uptoG_succ {α : Type} {xs : List α} {k : Nat} {P : α → Prop} {z : α} (h : ∀ (j : Nat) (x : α), j < k → xs[j]? = some x → P x) (hz : xs[k]? = some z) (hp : P z) : ∀ (j : Nat) (x : α), j < k + 1 → xs[j]? = some x → P x := by
  intro j x hj hx
  rcases Nat.lt_or_ge j k with h' | h'
  · exact h j x h' hx
  · obtain rfl : j = k := by omega
    rw [hz] at hx; cases hx; exact hp
theorem uptoG_all {α : Type} {xs : List α} {k : Nat} {P : α → Prop} (h : ∀ (j : Nat) (x : α), j < k → xs[j]? = some x → P x) (hk : xs.length ≤ k) : ∀ x ∈ xs, P x := by
  intro x hx
  obtain ⟨j, hj, rfl⟩ := List.mem_iff_getElem.1 hx
  exact h j _ (by omega) (List.getElem?_eq_getElem hj)

/-- Marked: two polynomials for each symbol. -/
noncomputable def markedOk (ar : List Int) (ps : List Pl) : Bool := decide (ps.length = 2 * ar.length) && polysOk ar (ps.take ar.length) && polysOk ar (ps.drop ar.length)

end Go.Proofs.Ytljbjabgdalabaa
