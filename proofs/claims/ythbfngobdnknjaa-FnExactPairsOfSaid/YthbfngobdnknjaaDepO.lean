/- DepOk of both. -/
import Derived.Test.YthbfngobdnknjaaDepU
-- rd: RdSyK RdDp RdDq
namespace Go.Proofs.Ythbfngobdnknjaa
open Go.RowKit
set_option linter.unusedSimpArgs false
set_option linter.unusedVariables false

/-- A pair's place, where it has one. -/
theorem depIn_of {s : Sy} {p : DepP} (h1 : 0 ≤ p.rule ∧ p.rule < s.rs.length) : ∃ (k : Nat) (r : Ru), p.rule = k ∧ s.rs[k]? = some r := by
  obtain ⟨k, hk⟩ := Int.eq_ofNat_of_zero_le h1.1
  have hkl : k < s.rs.length := by omega
  exact ⟨k, _, hk, List.getElem?_eq_getElem hkl⟩
theorem depIn_no1 {s : Sy} {p : DepP} (h : ¬ (0 ≤ p.rule ∧ p.rule < s.rs.length)) : ¬ DepIn s p := by
  rintro ⟨k, a, r, x, e1, e2, e3, e4⟩
  have := (List.getElem?_eq_some_iff.1 e3).1
  omega
theorem depIn_no2 {s : Sy} {p : DepP} {k : Nat} {r : Ru} (hk : p.rule = k) (hr : s.rs[k]? = some r) (h : ¬ (0 ≤ p.at_ ∧ p.at_ < r.r.length)) : ¬ DepIn s p := by
  rintro ⟨k', a, r', x, e1, e2, e3, e4⟩
  have hkk : k' = k := by omega
  subst hkk
  rw [hr] at e3; cases e3
  have := (List.getElem?_eq_some_iff.1 e4).1
  omega

end Go.Proofs.Ythbfngobdnknjaa
