/- Plain: systems of rules. -/
import Derived.Test.YtoopopgbbkmcpaaMTerm
namespace Go.Proofs.Ytoopopgbbkmcpaa
set_option linter.unusedVariables false

structure Ru where
  l : List Int
  r : List Int
structure Sy where
  ar : List Int
  rs : List Ru
def szRu (left : Int) (r : Ru) : Int := szI (szI left r.l.length) r.r.length
def szRsF (left : Int) (rs : List Ru) : Int := rs.foldl szRu left
def szRs (left : Int) (rs : List Ru) : Int := szRsF (szI left rs.length) rs
def szSy (left : Int) (s : Sy) : Int := szRs (szI left s.ar.length) s.rs
theorem szRu_bd (left : Int) (r : Ru) (h : -1 ≤ left ∧ left ≤ 1048576) : -1 ≤ szRu left r ∧ szRu left r ≤ 1048576 := szI_bd _ _ (szI_bd _ _ h)
theorem szRu_le (left : Int) (r : Ru) (h : -1 ≤ left) : szRu left r ≤ left := Int.le_trans (szI_le _ _ (szI_lo _ _)) (szI_le _ _ h)
theorem szRu_m1 (r : Ru) : szRu (-1) r = -1 := by unfold szRu; rw [szI_m1 (left := -1) (by omega), szI_m1 (by omega)]
theorem szRsF_m1 (rs : List Ru) : szRsF (-1) rs = -1 := by
  induction rs with
  | nil => rfl
  | cons r rs ih => show szRsF (szRu (-1) r) rs = -1; rw [szRu_m1]; exact ih
theorem szRsF_bd (left : Int) (rs : List Ru) (h : -1 ≤ left ∧ left ≤ 1048576) : -1 ≤ szRsF left rs ∧ szRsF left rs ≤ left := by
  induction rs generalizing left with
  | nil => exact ⟨h.1, Int.le_refl _⟩
  | cons p ps ih =>
    have h1 := szRu_bd left p h
    have h2 := szRu_le left p h.1
    have h3 := ih (szRu left p) h1
    exact ⟨h3.1, Int.le_trans h3.2 h2⟩
theorem szRs_bd (left : Int) (rs : List Ru) (h : -1 ≤ left ∧ left ≤ 1048576) : -1 ≤ szRs left rs ∧ szRs left rs ≤ 1048576 := by
  have h1 := szI_bd left rs.length h
  have h2 := szRsF_bd _ rs h1
  exact ⟨h2.1, by show szRsF _ _ ≤ _; omega⟩
theorem szSy_bd (left : Int) (s : Sy) (h : -1 ≤ left ∧ left ≤ 1048576) : -1 ≤ szSy left s ∧ szSy left s ≤ 1048576 := szRs_bd _ _ (szI_bd _ _ h)
theorem szRsF_snoc (left : Int) (rs : List Ru) (r : Ru) : szRsF left (rs ++ [r]) = szRu (szRsF left rs) r := by simp [szRsF, List.foldl_append]
theorem szRsF_neg {left : Int} {rs : List Ru} {k : Nat} (h : szRsF left (rs.take k) = -1) : szRsF left rs = -1 := by
  have e : szRsF left rs = szRsF (szRsF left (rs.take k)) (rs.drop k) := by
    unfold szRsF; rw [← List.foldl_append, List.take_append_drop]
  rw [e, h]; exact szRsF_m1 _
theorem szRu_ok {left : Int} {r : Ru} (h0 : -1 ≤ left) (h : 0 ≤ szRu left r) : (r.l.length : Int) ≤ left ∧ (r.r.length : Int) ≤ left := by
  have h1 := szI_nonneg (left := szI left r.l.length) (n := r.r.length) h
  have h2 := szI_nonneg (left := left) (n := r.l.length) (by omega)
  omega
theorem szRsF_ok {left : Int} {rs : List Ru} (hl : -1 ≤ left ∧ left ≤ 1048576) (h : 0 ≤ szRsF left rs) : ∀ r ∈ rs, (r.l.length : Int) ≤ left ∧ (r.r.length : Int) ≤ left := by
  induction rs generalizing left with
  | nil => simp
  | cons p ps ih =>
    have h1 := szRu_bd left p hl
    have h2 := szRsF_bd (szRu left p) ps h1
    have h0 : 0 ≤ szRsF (szRu left p) ps := h
    have h3 := szRu_ok (left := left) (r := p) hl.1 (by omega)
    have h4 := szRu_le left p hl.1
    intro q hq
    rcases List.mem_cons.1 hq with rfl | hq
    · exact h3
    · have := ih h1 h0 q hq; omega
theorem szSy_ok {left : Int} {s : Sy} (hl : -1 ≤ left ∧ left ≤ 1048576) (h : 0 ≤ szSy left s) : (s.ar.length : Int) ≤ left ∧ (s.rs.length : Int) ≤ left ∧ ∀ r ∈ s.rs, (r.l.length : Int) ≤ left ∧ (r.r.length : Int) ≤ left := by
  have h0 : 0 ≤ szRsF (szI (szI left s.ar.length) s.rs.length) s.rs := h
  have h1 := szI_bd left s.ar.length hl
  have h2 := szI_bd _ s.rs.length h1
  have h3 := szRsF_bd _ s.rs h2
  have h4 := szRsF_ok h2 h0
  have h5 := szI_nonneg (left := szI left s.ar.length) (n := s.rs.length) (by omega)
  have h6 := szI_nonneg (left := left) (n := s.ar.length) (by omega)
  exact ⟨by omega, by omega, fun r hr => by have := h4 r hr; omega⟩

/-- A right rule. -/
def RuleP (ar : List Int) (r : Ru) : Prop := TermP ar r.l ∧ TermP ar r.r ∧ (∀ x, r.l[0]? = some x → 0 ≤ x) ∧ ∀ x ∈ r.r, x < 0 → x ∈ r.l
noncomputable def ruleOk (ar : List Int) (r : Ru) : Bool := @decide (RuleP ar r) (Classical.propDecidable _)
theorem ruleOk_iff {ar : List Int} {r : Ru} : ruleOk ar r = true ↔ RuleP ar r := by simp [ruleOk]
theorem ruleOk_f {ar : List Int} {r : Ru} (h : ¬ RuleP ar r) : ruleOk ar r = false := by simp only [ruleOk, decide_eq_false_iff_not]; exact h
def SysP (s : Sy) : Prop := SigP s.ar ∧ s.rs.length ≤ 12 ∧ ∀ (j : Nat) (r : Ru), s.rs[j]? = some r → RuleP s.ar r
noncomputable def sysOk (s : Sy) : Bool := @decide (SysP s) (Classical.propDecidable _)
theorem sysOk_iff {s : Sy} : sysOk s = true ↔ SysP s := by simp [sysOk]
theorem sysOk_f {s : Sy} (h : ¬ SysP s) : sysOk s = false := by simp only [sysOk, decide_eq_false_iff_not]; exact h
theorem sysOk_sig {s : Sy} (h : sigOk s.ar = false) : sysOk s = false := sysOk_f fun a => by rw [sigOk_iff.2 a.1] at h; cases h
theorem sysOk_len {s : Sy} (h : ¬ s.rs.length ≤ 12) : sysOk s = false := sysOk_f fun a => h a.2.1
theorem sysOk_at {s : Sy} {j : Nat} {r : Ru} (hr : s.rs[j]? = some r) (h : ruleOk s.ar r = false) : sysOk s = false := sysOk_f fun a => by rw [ruleOk_iff.2 (a.2.2 j r hr)] at h; cases h
theorem sysOk_all {s : Sy} (h1 : sigOk s.ar = true) (h2 : s.rs.length ≤ 12) (h : ∀ (j : Nat) (r : Ru), j < s.rs.length → s.rs[j]? = some r → ruleOk s.ar r = true) : sysOk s = true :=
  sysOk_iff.2 ⟨sigOk_iff.1 h1, h2, fun j r hr => ruleOk_iff.1 (h j r (List.getElem?_eq_some_iff.1 hr).1 hr)⟩

end Go.Proofs.Ytoopopgbbkmcpaa
