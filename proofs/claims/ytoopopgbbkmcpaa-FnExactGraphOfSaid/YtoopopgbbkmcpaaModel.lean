/-
  Plain functions on integers and lists: what the Go functions compute. No program in sight.
-/
namespace Go.Proofs.Ytoopopgbbkmcpaa

/-- What is left of a size, or -1. -/
def szI (left : Int) (n : Nat) : Int := if left - n < 0 then -1 else left - n
theorem szI_le (left : Int) (n : Nat) (h : -1 ≤ left) : szI left n ≤ left := by unfold szI; split <;> omega
theorem szI_lo (left : Int) (n : Nat) : -1 ≤ szI left n := by unfold szI; split <;> omega
theorem szI_bd (left : Int) (n : Nat) (h : -1 ≤ left ∧ left ≤ 1048576) : -1 ≤ szI left n ∧ szI left n ≤ 1048576 := ⟨szI_lo _ _, Int.le_trans (szI_le _ _ h.1) h.2⟩
theorem szI_nonneg {left : Int} {n : Nat} (h : 0 ≤ szI left n) : n ≤ left ∧ szI left n = left - n := by
  unfold szI at h ⊢
  by_cases hc : left - n < 0
  · rw [if_pos hc] at h; omega
  · rw [if_neg hc]; exact ⟨by omega, rfl⟩

theorem szI_neg {left : Int} {n m : Nat} (h : szI left n < 0) : szI (szI left n) m = -1 := by
  have := szI_lo left n
  rw [szI, if_pos (by omega)]
theorem szI_m1 {left : Int} {n : Nat} (h : left - n < 0) : szI left n = -1 := by rw [szI, if_pos h]
theorem szI_sub {left : Int} {n : Nat} (h : 0 ≤ left - n) : szI left n = left - n := by rw [szI, if_neg (by omega)]

theorem take_snoc {α : Type} {ar : List α} {k : Nat} {x : α} (hx : ar[k]? = some x) : ar.take (k + 1) = ar.take k ++ [x] := by
  obtain ⟨hk, rfl⟩ := List.getElem?_eq_some_iff.1 hx
  exact List.take_succ_eq_append_getElem hk

/-- A right signature. -/
def SigP (ar : List Int) : Prop := 1 ≤ ar.length ∧ ar.length ≤ 8 ∧ ∀ n ∈ ar, 0 ≤ n ∧ n ≤ 3
instance (ar : List Int) : Decidable (SigP ar) := by unfold SigP; infer_instance
def sigOk (ar : List Int) : Bool := decide (SigP ar)
theorem sigOk_iff {ar : List Int} : sigOk ar = true ↔ SigP ar := by simp [sigOk]
theorem sigOk_len {ar : List Int} (h : ¬ (1 ≤ ar.length ∧ ar.length ≤ 8)) : sigOk ar = false := by
  simp only [sigOk, decide_eq_false_iff_not]; rintro ⟨a, b, _⟩; exact h ⟨a, b⟩
theorem sigOk_at {ar : List Int} {k : Nat} {x : Int} (hx : ar[k]? = some x) (h : ¬ (0 ≤ x ∧ x ≤ 3)) : sigOk ar = false := by
  simp only [sigOk, decide_eq_false_iff_not]; rintro ⟨_, _, c⟩; exact h (c x (List.mem_of_getElem? hx))
theorem sigOk_all {ar : List Int} (h1 : 1 ≤ ar.length) (h2 : ar.length ≤ 8) (h : ∀ j x, j < ar.length → ar[j]? = some x → 0 ≤ x ∧ x ≤ 3) : sigOk ar = true := by
  refine sigOk_iff.2 ⟨h1, h2, fun n hn => ?_⟩
  obtain ⟨j, hj, e⟩ := List.mem_iff_getElem.1 hn
  exact h j n hj (by rw [List.getElem?_eq_getElem hj, e])

/-- A right projection. -/
def ProjP (ar pr : List Int) : Prop := SigP ar ∧ pr.length = ar.length ∧ ∀ (j : Nat) (x n : Int), pr[j]? = some x → ar[j]? = some n → -1 ≤ x ∧ x < n
noncomputable def projOk (ar pr : List Int) : Bool := @decide (ProjP ar pr) (Classical.propDecidable _)
theorem projOk_sig {ar pr : List Int} (h : sigOk ar = false) : projOk ar pr = false := by
  simp only [projOk, decide_eq_false_iff_not]; rintro ⟨a, _⟩; rw [sigOk_iff.2 a] at h; cases h
theorem projOk_len {ar pr : List Int} (h : ¬ pr.length = ar.length) : projOk ar pr = false := by
  simp only [projOk, decide_eq_false_iff_not]; rintro ⟨_, a, _⟩; exact h a
theorem projOk_at {ar pr : List Int} {k : Nat} {x n : Int} (hx : pr[k]? = some x) (hn : ar[k]? = some n) (h : ¬ (-1 ≤ x ∧ x < n)) : projOk ar pr = false := by
  simp only [projOk, decide_eq_false_iff_not]; rintro ⟨_, _, a⟩; exact h (a k x n hx hn)
theorem projOk_all {ar pr : List Int} (h1 : sigOk ar = true) (h2 : pr.length = ar.length) (h : ∀ (j : Nat) (x n : Int), j < pr.length → pr[j]? = some x → ar[j]? = some n → -1 ≤ x ∧ x < n) : projOk ar pr = true := by
  simp only [projOk, decide_eq_true_eq]
  exact ⟨sigOk_iff.1 h1, h2, fun j x n hx hn => h j x n (List.getElem?_eq_some_iff.1 hx).1 hx hn⟩

structure DepP where
  l : List Int
  r : List Int
  rule : Int
  at_ : Int

def DepP.same (a b : DepP) : Bool := a.l == b.l && a.r == b.r && a.rule == b.rule && a.at_ == b.at_

end Go.Proofs.Ytoopopgbbkmcpaa
