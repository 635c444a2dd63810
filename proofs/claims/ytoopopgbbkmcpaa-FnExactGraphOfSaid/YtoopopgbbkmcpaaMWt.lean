/- Plain: ranks (each number from 0 on, once) and weights. -/
import Derived.Test.YtoopopgbbkmcpaaModel
namespace Go.Proofs.Ytoopopgbbkmcpaa

/-- A right rank. -/
def RankP (ar rk : List Int) : Prop := SigP ar ∧ rk.length = ar.length ∧ ∀ i : Nat, i < rk.length → (i : Int) ∈ rk
noncomputable def rankOk (ar rk : List Int) : Bool := @decide (RankP ar rk) (Classical.propDecidable _)
theorem rankOk_iff {ar rk : List Int} : rankOk ar rk = true ↔ RankP ar rk := by simp [rankOk]
theorem rankOk_f {ar rk : List Int} (h : ¬ RankP ar rk) : rankOk ar rk = false := by simp only [rankOk, decide_eq_false_iff_not]; exact h
theorem rankOk_sig {ar rk : List Int} (h : sigOk ar = false) : rankOk ar rk = false := rankOk_f fun a => by rw [sigOk_iff.2 a.1] at h; cases h
theorem rankOk_len {ar rk : List Int} (h : ¬ rk.length = ar.length) : rankOk ar rk = false := rankOk_f fun a => h a.2.1

/-- 0 .. n-1 -/
def upTo (n : Nat) : List Int := (List.range n).map fun (i : Nat) => (i : Int)
theorem upTo_len (n : Nat) : (upTo n).length = n := by simp [upTo]
theorem mem_upTo {n : Nat} {x : Int} : x ∈ upTo n ↔ 0 ≤ x ∧ x < n := by
  simp only [upTo, List.mem_map, List.mem_range]
  constructor
  · rintro ⟨i, hi, rfl⟩; omega
  · rintro ⟨h1, h2⟩; exact ⟨x.toNat, by omega, by omega⟩
theorem upTo_nodup (n : Nat) : (upTo n).Nodup := by
  unfold upTo List.Nodup
  rw [List.pairwise_map]
  refine List.Pairwise.imp ?_ (List.nodup_range (n := n))
  intro a b h e; exact h (by omega)

theorem rank_range {rk : List Int} (h : ∀ i : Nat, i < rk.length → (i : Int) ∈ rk) : ∀ x ∈ rk, 0 ≤ x ∧ x < rk.length := by
  intro x hx
  apply Classical.byContradiction
  intro hn
  have hsub : upTo rk.length ⊆ rk.erase x := by
    intro y hy
    have hy' := mem_upTo.1 hy
    have hm : y ∈ rk := by have := h y.toNat (by omega); rwa [show ((y.toNat : Nat) : Int) = y by omega] at this
    exact (List.mem_erase_of_ne (by rintro rfl; exact hn hy')).2 hm
  have := List.Nodup.length_le_of_subset (upTo_nodup _) hsub
  rw [upTo_len, List.length_erase_of_mem hx] at this
  have : 0 < rk.length := List.length_pos_of_mem hx
  omega
theorem rank_distinct {rk : List Int} (h : ∀ i : Nat, i < rk.length → (i : Int) ∈ rk) {i j : Nat} {x : Int} (hij : i < j) (hi : rk[i]? = some x) (hj : rk[j]? = some x) : False := by
  obtain ⟨hjl, ej⟩ := List.getElem?_eq_some_iff.1 hj
  obtain ⟨hil, ei⟩ := List.getElem?_eq_some_iff.1 hi
  have hsub : upTo rk.length ⊆ rk.eraseIdx j := by
    intro y hy
    have hy' := mem_upTo.1 hy
    have hm : y ∈ rk := by have := h y.toNat (by omega); rwa [show ((y.toNat : Nat) : Int) = y by omega] at this
    rw [List.mem_eraseIdx_iff_getElem]
    obtain ⟨k, hk, ek⟩ := List.mem_iff_getElem.1 hm
    by_cases hkj : k = j
    · subst hkj
      exact ⟨i, ⟨hil, by omega, by rw [ei, ← ek, ej]⟩⟩
    · exact ⟨k, ⟨hk, hkj, ek⟩⟩
  have := List.Nodup.length_le_of_subset (upTo_nodup _) hsub
  rw [upTo_len, List.length_eraseIdx] at this
  rw [if_pos hjl] at this
  omega
theorem rank_all {rk : List Int} (h1 : ∀ x ∈ rk, 0 ≤ x ∧ x < rk.length) (h2 : ∀ (i j : Nat) (x : Int), i < j → rk[i]? = some x → rk[j]? = some x → False) : ∀ i : Nat, i < rk.length → (i : Int) ∈ rk := by
  intro i hi
  apply Classical.byContradiction
  intro hn
  have hnd : rk.Nodup := by
    rw [List.Nodup, List.pairwise_iff_getElem]
    intro a b ha hb hab e
    exact h2 a b rk[a] hab (List.getElem?_eq_getElem ha) (by rw [List.getElem?_eq_getElem hb, e])
  have hsub : rk ⊆ (upTo rk.length).erase i := by
    intro x hx
    refine (List.mem_erase_of_ne ?_).2 (mem_upTo.2 (h1 x hx))
    rintro rfl; exact hn hx
  have := List.Nodup.length_le_of_subset hnd hsub
  rw [List.length_erase_of_mem (mem_upTo.2 ⟨by omega, by omega⟩), upTo_len] at this
  omega

structure Wt where
  var : Int
  sym : List Int
  rank : List Int
/-- One symbol's weight is right. -/
def WtAt (var : Int) (n : Nat) (s a r : Int) : Prop := (0 ≤ s ∧ s ≤ 20) ∧ (a = 0 → var ≤ s) ∧ (a = 1 → s = 0 → r = n - 1)
def WtP (ar : List Int) (wt : Wt) : Prop := RankP ar wt.rank ∧ wt.sym.length = ar.length ∧ (1 ≤ wt.var ∧ wt.var ≤ 20) ∧
  ∀ (j : Nat) (s a r : Int), wt.sym[j]? = some s → ar[j]? = some a → wt.rank[j]? = some r → WtAt wt.var wt.rank.length s a r
noncomputable def wtOk (ar : List Int) (wt : Wt) : Bool := @decide (WtP ar wt) (Classical.propDecidable _)
theorem wtOk_iff {ar : List Int} {wt : Wt} : wtOk ar wt = true ↔ WtP ar wt := by simp [wtOk]
theorem wtOk_f {ar : List Int} {wt : Wt} (h : ¬ WtP ar wt) : wtOk ar wt = false := by simp only [wtOk, decide_eq_false_iff_not]; exact h
theorem wtOk_rank {ar : List Int} {wt : Wt} (h : rankOk ar wt.rank = false) : wtOk ar wt = false := wtOk_f fun a => by rw [rankOk_iff.2 a.1] at h; cases h
theorem wtOk_len {ar : List Int} {wt : Wt} (h : ¬ wt.sym.length = ar.length) : wtOk ar wt = false := wtOk_f fun a => h a.2.1
theorem wtOk_var {ar : List Int} {wt : Wt} (h : ¬ (1 ≤ wt.var ∧ wt.var ≤ 20)) : wtOk ar wt = false := wtOk_f fun a => h a.2.2.1
theorem wtOk_at {ar : List Int} {wt : Wt} {j : Nat} {s a r : Int} (h1 : wt.sym[j]? = some s) (h2 : ar[j]? = some a) (h3 : wt.rank[j]? = some r) (h : ¬ WtAt wt.var wt.rank.length s a r) : wtOk ar wt = false :=
  wtOk_f fun p => h (p.2.2.2 j s a r h1 h2 h3)
theorem wtOk_all {ar : List Int} {wt : Wt} (h1 : rankOk ar wt.rank = true) (h2 : wt.sym.length = ar.length) (h3 : 1 ≤ wt.var ∧ wt.var ≤ 20)
    (h : ∀ (j : Nat) (s a r : Int), j < wt.sym.length → wt.sym[j]? = some s → ar[j]? = some a → wt.rank[j]? = some r → WtAt wt.var wt.rank.length s a r) : wtOk ar wt = true :=
  wtOk_iff.2 ⟨rankOk_iff.1 h1, h2, h3, fun j s a r e1 e2 e3 => h j s a r (List.getElem?_eq_some_iff.1 e1).1 e1 e2 e3⟩

end Go.Proofs.Ytoopopgbbkmcpaa
