/- Plain: pairs of rules of a system. -/
import Derived.Test.YtoopopgbbkmcpaaMTree
import Derived.Test.YtoopopgbbkmcpaaMSys
namespace Go.Proofs.Ytoopopgbbkmcpaa

/-- A rule for it. -/
def Dfd (s : Sy) (f : Int) : Prop := ∃ r ∈ s.rs, r.l[0]? = some f
noncomputable def dfd (s : Sy) (f : Int) : Bool := @decide (Dfd s f) (Classical.propDecidable _)
theorem dfd_t {s : Sy} {f : Int} {j : Nat} {r : Ru} (hr : s.rs[j]? = some r) (h : r.l[0]? = some f) : dfd s f = true := by
  simp only [dfd, decide_eq_true_eq]; exact ⟨r, List.mem_of_getElem? hr, h⟩
theorem dfd_f {s : Sy} {f : Int} (h : ∀ (j : Nat) (r : Ru), j < s.rs.length → s.rs[j]? = some r → ¬ r.l[0]? = some f) : dfd s f = false := by
  simp only [dfd, decide_eq_false_iff_not]
  rintro ⟨r, hr, h2⟩
  obtain ⟨j, hj, rfl⟩ := List.mem_iff_getElem.1 hr
  exact h j _ hj (List.getElem?_eq_getElem hj) h2
theorem dfd_iff {s : Sy} {f : Int} : dfd s f = true ↔ Dfd s f := by simp [dfd]
mutual
theorem sub_ex {ar : List Int} : ∀ (u : Tm), u.Ok ar → ∀ at_, at_ < u.flat.length → ∃ (v : Tm) (rest : List Int), v.Ok ar ∧ u.flat.drop at_ = v.flat ++ rest
  | .node x us, hu, 0, _ => ⟨.node x us, [], hu, by simp⟩
  | .node x us, hu, n + 1, h => by
    rw [flat_node, List.length_cons] at h
    obtain ⟨v, rest, h1, h2⟩ := subL_ex us (Ok_node.1 hu).2 n (by omega)
    exact ⟨v, rest, h1, by rw [flat_node, List.drop_succ_cons]; exact h2⟩
theorem subL_ex {ar : List Int} : ∀ (us : List Tm), OkL ar us → ∀ at_, at_ < (flatL us).length → ∃ (v : Tm) (rest : List Int), v.Ok ar ∧ (flatL us).drop at_ = v.flat ++ rest
  | [], _, at_, h => by rw [show flatL [] = [] by rfl] at h; simp at h
  | a :: us, hu, at_, h => by
    obtain ⟨k1, k2⟩ := OkL_cons.1 hu
    rw [flatL_cons, List.length_append] at h
    rw [flatL_cons]
    by_cases h1 : at_ < a.flat.length
    · obtain ⟨v, rest, h2, h3⟩ := sub_ex a k1 at_ h1
      exact ⟨v, rest ++ flatL us, h2, by rw [List.drop_append_of_le_length (by omega), h3, List.append_assoc]⟩
    · obtain ⟨v, rest, h2, h3⟩ := subL_ex us k2 (at_ - a.flat.length) (by omega)
      exact ⟨v, rest, h2, by rw [List.drop_append, List.drop_of_length_le (by omega), List.nil_append]; exact h3⟩
end
/-- The subterm at a place. -/
noncomputable def subT (ar t : List Int) (p : Nat) : Tm := @Classical.epsilon Tm ⟨.node 0 []⟩ fun v => v.Ok ar ∧ ∃ rest, t.drop p = v.flat ++ rest
theorem subT_ok {ar t : List Int} {p : Nat} (h : TermP ar t) (hp : p < t.length) : (subT ar t p).Ok ar ∧ ∃ rest, t.drop p = (subT ar t p).flat ++ rest := by
  obtain ⟨k1, k2⟩ := tmOf_ok h
  obtain ⟨v, rest, h1, h2⟩ := sub_ex (tmOf ar t) k1 p (by rw [k2]; exact hp)
  rw [k2] at h2
  exact Classical.epsilon_spec (p := fun v : Tm => v.Ok ar ∧ ∃ rest, t.drop p = v.flat ++ rest) ⟨v, h1, rest, h2⟩
/-- It is a part of a term. -/
def Has (ar t u : List Int) : Prop := ∃ p, 1 ≤ p ∧ p < t.length ∧ (subT ar t p).flat = u
noncomputable def has (ar t u : List Int) : Bool := @decide (Has ar t u) (Classical.propDecidable _)
theorem has_t {ar t u : List Int} {p : Nat} (h1 : 1 ≤ p) (h2 : p < t.length) (h : (subT ar t p).flat = u) : has ar t u = true := by
  simp only [has, decide_eq_true_eq]; exact ⟨p, h1, h2, h⟩
theorem has_f {ar t u : List Int} (h : ∀ p, 1 ≤ p → p < t.length → ¬ (subT ar t p).flat = u) : has ar t u = false := by
  simp only [has, decide_eq_false_iff_not]; rintro ⟨p, h1, h2, h3⟩; exact h p h1 h2 h3
/-- The pair of a rule at a place. -/
noncomputable def depOf (s : Sy) (r : Ru) (rule p : Nat) (x : Int) : Option DepP :=
  if x < 0 then none else if dfd s x = false then none else if has s.ar r.l (subT s.ar r.r p).flat = true then none else some ⟨r.l, (subT s.ar r.r p).flat, rule, p⟩
/-- What is asked of a pair's numbers. -/
def DepIn (s : Sy) (p : DepP) : Prop := ∃ (k a : Nat) (r : Ru) (x : Int), p.rule = k ∧ p.at_ = a ∧ s.rs[k]? = some r ∧ r.r[a]? = some x
def DepGood (s : Sy) (p : DepP) : Prop := ∃ (k a : Nat) (r : Ru) (x : Int), (p.rule = k ∧ p.at_ = a ∧ s.rs[k]? = some r ∧ r.r[a]? = some x) ∧ ∃ q, depOf s r k a x = some q ∧ q.same p = true
noncomputable def depG (s : Sy) (p : DepP) : Bool := @decide (DepGood s p) (Classical.propDecidable _)
theorem depG_f {s : Sy} {p : DepP} (h : ¬ DepGood s p) : depG s p = false := by simp only [depG, decide_eq_false_iff_not]; exact h
theorem depG_t {s : Sy} {p : DepP} (h : DepGood s p) : depG s p = true := by simp only [depG, decide_eq_true_eq]; exact h
noncomputable def depOk (s : Sy) (p : DepP) : Bool := sysOk s && depG s p
theorem depOk_sys {s : Sy} {p : DepP} (h : sysOk s = false) : depOk s p = false := by unfold depOk; rw [h]; rfl
theorem depOk_out {s : Sy} {p : DepP} (h : ¬ DepIn s p) : depOk s p = false := by
  unfold depOk
  rw [depG_f, Bool.and_false]
  rintro ⟨k, a, r, x, h1, _⟩
  exact h ⟨k, a, r, x, h1⟩
theorem depGood_at {s : Sy} {p : DepP} {k a : Nat} {r : Ru} {x : Int} (h1 : p.rule = k) (h2 : p.at_ = a) (h3 : s.rs[k]? = some r) (h4 : r.r[a]? = some x) (h : DepGood s p) : ∃ q, depOf s r k a x = some q ∧ q.same p = true := by
  obtain ⟨k', a', r', x', ⟨e1, e2, e3, e4⟩, q, e5, e6⟩ := h
  have hk : k' = k := by omega
  have ha : a' = a := by omega
  subst hk; subst ha
  rw [h3] at e3; cases e3
  rw [h4] at e4; cases e4
  exact ⟨q, e5, e6⟩
theorem depOk_none {s : Sy} {p : DepP} {k a : Nat} {r : Ru} {x : Int} (h1 : p.rule = k) (h2 : p.at_ = a) (h3 : s.rs[k]? = some r) (h4 : r.r[a]? = some x) (h : depOf s r k a x = none) : depOk s p = false := by
  unfold depOk
  rw [depG_f, Bool.and_false]
  intro hg
  obtain ⟨q, e5, _⟩ := depGood_at h1 h2 h3 h4 hg
  rw [h] at e5; cases e5
theorem depOk_some {s : Sy} {p q : DepP} {k a : Nat} {r : Ru} {x : Int} (hs : sysOk s = true) (h1 : p.rule = k) (h2 : p.at_ = a) (h3 : s.rs[k]? = some r) (h4 : r.r[a]? = some x) (h : depOf s r k a x = some q) : depOk s p = q.same p := by
  unfold depOk
  rw [hs, Bool.true_and]
  cases hq : q.same p with
  | true => exact depG_t ⟨k, a, r, x, ⟨h1, h2, h3, h4⟩, q, h, hq⟩
  | false =>
    refine depG_f fun hg => ?_
    obtain ⟨q', e5, e6⟩ := depGood_at h1 h2 h3 h4 hg
    rw [h] at e5; cases e5
    rw [hq] at e6; cases e6
theorem same_comm (p q : DepP) : p.same q = q.same p := by
  have h : ∀ p q : DepP, p.same q = true → q.same p = true := by
    intro p q h
    simp only [DepP.same, Bool.and_eq_true, beq_iff_eq] at h ⊢
    exact ⟨⟨⟨h.1.1.1.symm, h.1.1.2.symm⟩, h.1.2.symm⟩, h.2.symm⟩
  exact Bool.eq_iff_iff.2 ⟨h p q, h q p⟩

end Go.Proofs.Ytoopopgbbkmcpaa
