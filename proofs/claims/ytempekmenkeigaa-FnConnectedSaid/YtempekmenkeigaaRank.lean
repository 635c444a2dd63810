import Derived.Test.YtempekmenkeigaaSig
import Derived.Test.YtempekmenkeigaaMgA
namespace Go.Proofs.Ytempekmenkeigaa
open Go.RowKit
set_option linter.unusedSimpArgs false
set_option linter.unusedVariables false

/-- Where a number stands first, or -1. -/
def idx (xs : List Int) (x : Int) : Int := if x ∈ xs then (xs.idxOf x : Int) else -1
theorem idx_at {xs : List Int} {x : Int} {k : Nat} (hx : xs[k]? = some x) (h : ∀ j, j < k → xs[j]? ≠ some x) : idx xs x = k := by
  unfold idx
  rw [if_pos (List.mem_of_getElem? hx)]
  obtain ⟨hk, e⟩ := List.getElem?_eq_some_iff.1 hx
  have hm : x ∈ xs := List.mem_of_getElem? hx
  have hl := List.idxOf_lt_length_of_mem hm
  have hg : xs[xs.idxOf x]? = some x := by rw [List.getElem?_eq_getElem hl, List.getElem_idxOf hl]
  rcases Nat.lt_trichotomy (xs.idxOf x) k with h1 | h1 | h1
  · exact absurd hg (h _ h1)
  · rw [h1]
  · exfalso
    have := List.not_of_lt_findIdx (p := (· == x)) (xs := xs) (i := k) h1
    simp [e] at this
theorem idx_none {xs : List Int} {x : Int} (h : ∀ j, j < xs.length → xs[j]? ≠ some x) : idx xs x = -1 := by
  unfold idx
  rw [if_neg]
  intro hm
  obtain ⟨j, hj, e⟩ := List.mem_iff_getElem.1 hm
  exact h j hj (by rw [List.getElem?_eq_getElem hj, e])
theorem idx_bd (xs : List Int) (x : Int) : -1 ≤ idx xs x ∧ idx xs x ≤ xs.length := by
  unfold idx
  split
  · have := List.idxOf_le_length (a := x) (l := xs); omega
  · omega
theorem idx_has {xs : List Int} {x : Int} : decide (0 ≤ idx xs x) = decide (x ∈ xs) := by
  unfold idx
  by_cases h : x ∈ xs
  · rw [if_pos h]; simp [h]
  · rw [if_neg h]; simp [h]

set_option maxHeartbeats 400000 in
theorem c_slicesIndex {v : Value} {xs : List Int} {x : Int} {w : World} (h0 : RdI w v xs) :
    Calls Try.prog 109 #[v, .int .i64 x] w fun e w' => e = .returned (.int .i64 (idx xs x)) ∧ w = w' := by
  obtain ⟨A, n, c, rfl, ha⟩ := h0
  have hn := ha.le
  have HA := Lib.hid ha
  clear ha
  go_enter Try.func109, Try.ntmps109
  go_wp2
  go_loop [8] (fun i => ∃ k : Nat, i = .int .i64 k ∧ k ≤ n ∧ Hid (∀ j, j < k → xs[j]? ≠ some x)) (fun i => n - (intOf i).toNat)
  case atStart => exact ⟨0, rfl, Nat.zero_le _, fun j hj => by omega⟩
  case round =>
    obtain ⟨k, rfl, hk, hp⟩ := hrel
    by_cases hlt : k < n
    · obtain ⟨b, o, y, rfl, hy, hcy⟩ := RI.at_ HA.out hlt
      have HY := Lib.hid hy
      clear hy
      by_cases hxy : x = y
      · subst hxy
        have hb : (x == x) = true := by simp
        go_wp2
        go_ret
        exact ⟨ret_int (idx_at HY.out hp.out).symm, rfl⟩
      · have hb : (x == y) = false := by simpa using hxy
        go_wp2
        go_round
        case rel =>
          refine ⟨k + 1, by go_num, by omega, fun j hj => ?_⟩
          rcases Nat.lt_or_ge j k with h | h
          · exact hp.out j h
          · obtain rfl : j = k := by omega
            rw [HY.out]; intro e; injection e with e; exact hxy e.symm
        case measure => simp [intOf]; omega
    · go_wp2
      go_ret
      exact ⟨ret_int (idx_none fun j hj => hp.out j (by rw [HA.out.len] at hj; omega)).symm, rfl⟩
set_option maxHeartbeats 400000 in
theorem c_slicesContains {v : Value} {xs : List Int} {x : Int} {w : World} (h0 : RdI w v xs) :
    Calls Try.prog 101 #[v, .int .i64 x] w fun e w' => e = .returned (.bool (decide (x ∈ xs))) ∧ w = w' := by
  have hb := idx_bd xs x
  go_enter Try.func101, Try.ntmps101
  go_wp2_with (go_at_call 109; (with_reducible refine (c_slicesIndex (x := x) h0).mono ?_); rintro e w2 ⟨rfl, rfl⟩)
  go_ret
  exact ⟨ret_bool idx_has, rfl⟩

end Go.Proofs.Ytempekmenkeigaa
