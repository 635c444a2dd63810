/-
  Plain functions on integers and lists: what the Go functions compute. No program in sight.
-/
namespace Go.Proofs.Ytknjfeoijcelgaa

/-- What is left of a size, or -1. -/
def szI (left : Int) (n : Nat) : Int := if left - n < 0 then -1 else left - n
theorem szI_le (left : Int) (n : Nat) (h : -1 ≤ left) : szI left n ≤ left := by unfold szI; split <;> omega
theorem szI_lo (left : Int) (n : Nat) : -1 ≤ szI left n := by unfold szI; split <;> omega
theorem szI_nonneg {left : Int} {n : Nat} (h : 0 ≤ szI left n) : n ≤ left ∧ szI left n = left - n := by
  unfold szI at h ⊢
  by_cases hc : left - n < 0
  · rw [if_pos hc] at h; omega
  · rw [if_neg hc]; exact ⟨by omega, rfl⟩

theorem szI_neg {left : Int} {n m : Nat} (h : szI left n < 0) : szI (szI left n) m = -1 := by
  have := szI_lo left n
  rw [szI, if_pos (by omega)]
theorem szI_m1 {left : Int} {n : Nat} (h : left - n < 0) : szI left n = -1 := by rw [szI, if_pos h]
theorem szI_sub {left : Int} {n : Nat} (h : 0 ≤ left - n) : szI left n = left - n := by rw [szI, if_neg (by omega)]

structure DepP where
  l : List Int
  r : List Int
  rule : Int
  at_ : Int

def DepP.same (a b : DepP) : Bool := a.l == b.l && a.r == b.r && a.rule == b.rule && a.at_ == b.at_

end Go.Proofs.Ytknjfeoijcelgaa
