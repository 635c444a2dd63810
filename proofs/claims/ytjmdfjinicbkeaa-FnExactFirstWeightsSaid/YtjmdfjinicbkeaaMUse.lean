/- Plain: which rules are usable from a term. -/
import Derived.Test.YtjmdfjinicbkeaaMSys
namespace Go.Proofs.Ytjmdfjinicbkeaa
set_option linter.unusedVariables false

/-- What one rule does for one head. -/
def useRule (n : Int) (r : Ru) (k : Nat) (st : List Bool × List Int) : List Bool × List Int :=
  if r.l[0]? = some n ∧ st.1[k]? = some false then (st.1.set k true, st.2 ++ r.r) else st
/-- .. the first k of them. -/
def useRow (rs : List Ru) (n : Int) : Nat → List Bool × List Int → List Bool × List Int
  | 0, st => st
  | k + 1, st => match rs[k]? with
    | some r => useRule n r k (useRow rs n k st)
    | none => useRow rs n k st
def useGo (rs : List Ru) : Nat → List Bool → List Int → List Bool
  | 0, us, _ => us
  | f + 1, us, td => match td with
    | [] => us
    | n :: td => useGo rs f (useRow rs n rs.length (us, td)).1 (useRow rs n rs.length (us, td)).2
/-- What is still to come. -/
def useNeed : List Ru → List Bool → Nat
  | r :: rs, b :: us => (if b = true then 0 else r.r.length) + useNeed rs us
  | _, _ => 0
theorem useNeed_set {rs : List Ru} {us : List Bool} {k : Nat} {r : Ru} (hr : rs[k]? = some r) (hu : us[k]? = some false) : useNeed rs (us.set k true) + r.r.length = useNeed rs us := by
  induction rs generalizing us k with
  | nil => simp at hr
  | cons p ps ih =>
    cases us with
    | nil => simp at hu
    | cons b us =>
      cases k with
      | zero => cases hr; cases hu; simp [useNeed]; omega
      | succ k => have := ih (us := us) (k := k) (by simpa using hr) (by simpa using hu); simp only [List.set_cons_succ, useNeed]; omega
theorem useRow_succ {rs : List Ru} {n : Int} {k : Nat} {r : Ru} {st : List Bool × List Int} (hr : rs[k]? = some r) : useRow rs n (k + 1) st = useRule n r k (useRow rs n k st) := by
  show (match rs[k]? with | some r => useRule n r k (useRow rs n k st) | none => useRow rs n k st) = _
  rw [hr]
theorem useRow_bd (rs : List Ru) (n : Int) (k : Nat) (st : List Bool × List Int) :
    (useRow rs n k st).2.length + useNeed rs (useRow rs n k st).1 = st.2.length + useNeed rs st.1 ∧ (useRow rs n k st).1.length = st.1.length := by
  induction k with
  | zero => exact ⟨rfl, rfl⟩
  | succ k ih =>
    cases hr : rs[k]? with
    | none => rw [show useRow rs n (k + 1) st = useRow rs n k st by show (match rs[k]? with | some r => useRule n r k (useRow rs n k st) | none => useRow rs n k st) = _; rw [hr]]; exact ih
    | some r =>
      rw [useRow_succ hr]
      unfold useRule
      split
      · rename_i h
        have := useNeed_set hr h.2
        simp only [List.length_append, List.length_set]
        exact ⟨by omega, ih.2⟩
      · exact ih
theorem useNeed_le {rs : List Ru} {us : List Bool} {q : Nat} (h : ∀ r ∈ rs, r.r.length ≤ q) : useNeed rs us ≤ rs.length * q := by
  induction rs generalizing us with
  | nil => simp [useNeed]
  | cons p ps ih =>
    cases us with
    | nil => simp [useNeed]
    | cons b us =>
      have h1 := ih (us := us) fun r hr => h r (List.mem_cons_of_mem _ hr)
      have h2 := h p (List.mem_cons_self ..)
      simp only [useNeed, List.length_cons, Nat.add_mul, Nat.one_mul]
      split <;> omega
/-- The whole: which rules are marked. -/
def useAll (s : Sy) (t : List Int) : List Bool := useGo s.rs ((t.drop 1).length + useNeed s.rs (List.replicate s.rs.length false)) (List.replicate s.rs.length false) (t.drop 1)
/-- A state on the way to U. -/
structure UseAt (s : Sy) (U : List Bool) (us : List Bool) (td : List Int) : Prop where
  len : us.length = s.rs.length
  go : useGo s.rs (td.length + useNeed s.rs us) us td = U
  bd : td.length + useNeed s.rs us ≤ 780
theorem UseAt.start {s : Sy} {t : List Int} (hs : SysP s) (ht : t.length ≤ 60) : UseAt s (useAll s t) (List.replicate s.rs.length false) (t.drop 1) := by
  refine ⟨by simp, rfl, ?_⟩
  have h1 : useNeed s.rs (List.replicate s.rs.length false) ≤ s.rs.length * 60 := useNeed_le fun r hr => by
    obtain ⟨j, hj, e⟩ := List.mem_iff_getElem.1 hr
    have h := (hs.2.2 j r (by rw [List.getElem?_eq_getElem hj, e])).2.1.2.1.2
    omega
  have h2 := hs.2.1
  have h3 : s.rs.length * 60 ≤ 12 * 60 := Nat.mul_le_mul_right 60 h2
  have h4 : (t.drop 1).length ≤ 60 := by rw [List.length_drop]; omega
  omega
theorem UseAt.stop {s : Sy} {U us : List Bool} (h : UseAt s U us []) : U = us := by
  have := h.go
  cases hf : ([] : List Int).length + useNeed s.rs us with
  | zero => rw [hf] at this; exact this.symm
  | succ f => rw [hf] at this; exact this.symm
/-- One round. -/
theorem UseAt.next {s : Sy} {U us : List Bool} {n : Int} {td : List Int} (h : UseAt s U us (n :: td)) :
    UseAt s U (useRow s.rs n s.rs.length (us, td)).1 (useRow s.rs n s.rs.length (us, td)).2 ∧
      (useRow s.rs n s.rs.length (us, td)).2.length + useNeed s.rs (useRow s.rs n s.rs.length (us, td)).1 = td.length + useNeed s.rs us := by
  have hb := useRow_bd s.rs n s.rs.length (us, td)
  have hg := h.go
  have hd := h.bd
  simp only [List.length_cons] at hg hd
  rw [show td.length + 1 + useNeed s.rs us = (td.length + useNeed s.rs us) + 1 by omega] at hg
  refine ⟨⟨by rw [hb.2]; exact h.len, ?_, ?_⟩, hb.1⟩
  · rw [hb.1]; exact hg
  · rw [hb.1]; simp only at *; omega
/-- In the middle of a round: how much is waiting at most. -/
theorem UseAt.mid {s : Sy} {U us : List Bool} {n : Int} {td : List Int} (h : UseAt s U us (n :: td)) (k : Nat) :
    (useRow s.rs n k (us, td)).2.length ≤ 779 ∧ (useRow s.rs n k (us, td)).1.length = s.rs.length := by
  have hb := useRow_bd s.rs n k (us, td)
  have hd := h.bd
  simp only [List.length_cons] at hd
  refine ⟨?_, hb.2.trans h.len⟩
  have := hb.1
  simp only at this
  omega
theorem useRow_hit {rs : List Ru} {n : Int} {k : Nat} {r : Ru} {st : List Bool × List Int} {us : List Bool} {td : List Int} (hr : rs[k]? = some r) (he : useRow rs n k st = (us, td)) (h1 : r.l[0]? = some n) (h2 : us[k]? = some false) :
    useRow rs n (k + 1) st = (us.set k true, td ++ r.r) := by
  rw [useRow_succ hr, he]; unfold useRule; rw [if_pos ⟨h1, h2⟩]
theorem useRow_miss {rs : List Ru} {n : Int} {k : Nat} {r : Ru} {st : List Bool × List Int} {us : List Bool} {td : List Int} (hr : rs[k]? = some r) (he : useRow rs n k st = (us, td)) (h : ¬ (r.l[0]? = some n ∧ us[k]? = some false)) :
    useRow rs n (k + 1) st = (us, td) := by
  rw [useRow_succ hr, he]; unfold useRule; rw [if_neg h]

/-- The marked ones, as numbers. -/
def useOut (us : List Bool) (k : Nat) : List Int := ((List.range k).filter fun j => us[j]? == some true).map fun (j : Nat) => (j : Int)
theorem useOut_t {us : List Bool} {k : Nat} (h : us[k]? = some true) : useOut us (k + 1) = useOut us k ++ [(k : Int)] := by
  unfold useOut; rw [List.range_succ, List.filter_append, List.map_append]; simp [h]
theorem useOut_f {us : List Bool} {k : Nat} (h : us[k]? = some false) : useOut us (k + 1) = useOut us k := by
  unfold useOut; rw [List.range_succ, List.filter_append, List.map_append]; simp [h]
theorem useOut_len (us : List Bool) (k : Nat) : (useOut us k).length ≤ k := by
  unfold useOut; rw [List.length_map]; exact Nat.le_trans (List.length_filter_le _ _) (by simp)
theorem useOut_mem {us : List Bool} {k : Nat} {x : Int} : x ∈ useOut us k ↔ ∃ j : Nat, x = (j : Int) ∧ j < k ∧ us[j]? = some true := by
  unfold useOut
  simp only [List.mem_map, List.mem_filter, List.mem_range, beq_iff_eq]
  exact ⟨fun ⟨j, ⟨h1, h2⟩, h3⟩ => ⟨j, h3.symm, h1, h2⟩, fun ⟨j, h3, h1, h2⟩ => ⟨j, ⟨h1, h2⟩, h3.symm⟩⟩
theorem useOut_inc (us : List Bool) (k : Nat) : (useOut us k).Pairwise (· < ·) := by
  induction k with
  | zero => exact List.Pairwise.nil
  | succ k ih =>
    by_cases h : us[k]? = some true
    · rw [useOut_t h, List.pairwise_append]
      refine ⟨ih, List.pairwise_singleton _ _, fun a ha b hb => ?_⟩
      obtain ⟨j, rfl, hj, _⟩ := useOut_mem.1 ha
      rw [List.mem_singleton.1 hb]; omega
    · have e : useOut us (k + 1) = useOut us k := by
        unfold useOut; rw [List.range_succ, List.filter_append, List.map_append]; simp [h]
      rw [e]; exact ih
/-- Two rising lists of the same numbers are the same. -/
theorem inc_ext {xs ys : List Int} (hx : xs.Pairwise (· < ·)) (hy : ys.Pairwise (· < ·)) (h : ∀ a, a ∈ xs ↔ a ∈ ys) : xs = ys := by
  induction xs generalizing ys with
  | nil =>
    cases ys with
    | nil => rfl
    | cons y ys => exact absurd ((h y).2 (List.mem_cons_self ..)) (by simp)
  | cons x xs ih =>
    cases ys with
    | nil => exact absurd ((h x).1 (List.mem_cons_self ..)) (by simp)
    | cons y ys =>
      rw [List.pairwise_cons] at hx hy
      have e : x = y := by
        rcases List.mem_cons.1 ((h x).1 (List.mem_cons_self ..)) with e | e
        · exact e
        · have h1 := hy.1 x e
          rcases List.mem_cons.1 ((h y).2 (List.mem_cons_self ..)) with e2 | e2
          · exact e2.symm
          · have := hx.1 y e2; omega
      subst e
      congr 1
      refine ih hx.2 hy.2 fun a => ⟨fun ha => ?_, fun ha => ?_⟩
      · rcases List.mem_cons.1 ((h a).1 (List.mem_cons_of_mem _ ha)) with e2 | e2
        · have := hx.1 a ha; omega
        · exact e2
      · rcases List.mem_cons.1 ((h a).2 (List.mem_cons_of_mem _ ha)) with e2 | e2
        · have := hy.1 a ha; omega
        · exact e2
noncomputable def useV (s : Sy) (t : List Int) : List Int := if sysOk s = true ∧ termOk s.ar t = true then useOut (useAll s t) s.rs.length else []
theorem useV_sys {s : Sy} {t : List Int} (h : sysOk s = false) : useV s t = [] := if_neg fun a => by rw [h] at a; cases a.1
theorem useV_term {s : Sy} {t : List Int} (h : termOk s.ar t = false) : useV s t = [] := if_neg fun a => by rw [h] at a; cases a.2
theorem useV_ok {s : Sy} {t : List Int} (h1 : sysOk s = true) (h2 : termOk s.ar t = true) : useV s t = useOut (useAll s t) s.rs.length := if_pos ⟨h1, h2⟩

end Go.Proofs.Ytjmdfjinicbkeaa
