/-
  A region that draws its order, walked operation by operation under one invariant, whatever the order.
-/
import Derived.Test.YtoopopgbbkmcpaaBase
import Derived.Orders
import Derived.RegionTactic
namespace Go.Proofs.Ytoopopgbbkmcpaa
open Go.RowKit

/-- p holds of each operation of a list, numbered from k. -/
def AllFrom (p : Nat → Oper → Prop) : Nat → List Oper → Prop
  | _, [] => True
  | k, o :: l => p k o ∧ AllFrom p (k + 1) l
theorem AllFrom.get {p : Nat → Oper → Prop} : ∀ {l : List Oper} {k i : Nat} {o : Oper}, AllFrom p k l → l[i]? = some o → p (k + i) o
  | [], _, _, _, _, h => by simp at h
  | o :: l, k, 0, o', h, hi => by simp at hi; subst hi; simpa using h.1
  | o :: l, k, i + 1, o', h, hi => by
    have := AllFrom.get h.2 (by simpa using hi)
    rwa [Nat.add_assoc, Nat.add_comm 1 i] at this

/-- Each operation waits for earlier ones alone. -/
def lexOk (l : List Oper) : Bool := l.zipIdx.all fun (o, i) => o.after.all fun e => !Region.binds .any e || decide (e.on < i)

section
variable {P : Program} {ops : Array Oper} {Q : Exit → Act → World → Prop}

/-- What one operation owes the invariant. -/
def StepInv (P : Program) (ops : Array Oper) (Q : Exit → Act → World → Prop) (I : (Nat → Bool) → Act → World → Prop) (i : Nat) (o : Oper) : Prop :=
  ∀ (S : Nat → Bool) (a : Act) (w : World) (K : Act → World → Prop), (∀ e ∈ o.after, Region.binds .any e = true → S e.on = true) → I S a w → (∀ a w, I (fun j => j == i || S j) a w → K a w) → S i = false →
    if Region.wanted o (yielded ops a.tmps) = true then o.wp P a w K Q else K (a.put o.dst undef) w

theorem StepInv.plain {I : (Nat → Bool) → Act → World → Prop} {i : Nat} {o : Oper} (hg : o.guard = none)
    (h : ∀ (S : Nat → Bool) (a : Act) (w : World) (K : Act → World → Prop), (∀ e ∈ o.after, Region.binds .any e = true → S e.on = true) → I S a w → (∀ a w, I (fun j => j == i || S j) a w → K a w) → o.wp P a w K Q) : StepInv P ops Q I i o := by
  intro S a w K h1 h2 h3 _
  rw [if_pos (by simp [Region.wanted, hg])]
  exact h S a w K h1 h2 h3
theorem StepInv.fresh {I : (Nat → Bool) → Act → World → Prop} {i : Nat} {o : Oper} (hg : o.guard = none)
    (h : ∀ (S : Nat → Bool) (a : Act) (w : World) (K : Act → World → Prop), (∀ e ∈ o.after, Region.binds .any e = true → S e.on = true) → I S a w → (∀ a w, I (fun j => j == i || S j) a w → K a w) → S i = false → o.wp P a w K Q) : StepInv P ops Q I i o := by
  intro S a w K h1 h2 h3 h4
  rw [if_pos (by simp [Region.wanted, hg])]
  exact h S a w K h1 h2 h3 h4

theorem lex_ready {l : List Oper} (h : lexOk l = true) {i : Nat} {o : Oper} (ho : l[i]? = some o) : ∀ e ∈ o.after, Region.binds .any e = true → e.on < i := by
  intro e he hb
  unfold lexOk at h
  rw [List.all_eq_true] at h
  have hm : (o, i) ∈ l.zipIdx := by
    rw [List.mem_iff_getElem?]
    exact ⟨i, by simp [List.getElem?_zipIdx, ho]⟩
  have := h _ hm
  simp only [Array.all_eq_true_iff_forall_mem] at this
  have := this e he
  rw [hb] at this
  simpa using this

theorem wpAny_inv (hlex : lexOk ops.toList = true) (I : (Nat → Bool) → Act → World → Prop)
    (hs : AllFrom (StepInv P ops Q I) 0 ops.toList) (h1 : ∀ S a w, (∀ i, i < ops.size → S i = true) → I S a w → Q .normal a w) :
    ∀ (fuel : Nat) (listed : Array Bool) (a : Act) (w : World), listed.size = ops.size → ((List.range ops.size).filter fun i => !listed.getD i true).length ≤ fuel →
      I (fun i => listed.getD i true) a w → wpAny P .any ops Q fuel listed a w := by
  have hdone : ∀ (listed : Array Bool) (a : Act) (w : World), listed.size = ops.size → Region.ready .any ops listed = [] → I (fun i => listed.getD i true) a w → Q .normal a w := by
    intro listed a w hsz hr hI
    refine h1 _ a w ?_ hI
    intro i
    induction i using Nat.strongRecOn with
    | _ i ih =>
      intro hi
      rcases hb : listed.getD i true with _ | _
      · exfalso
        have ho : ops[i]? = some ops[i] := Array.getElem?_eq_getElem hi
        have hmem : i ∈ Region.ready .any ops listed := by
          unfold Region.ready
          rw [List.mem_filter]
          refine ⟨List.mem_range.2 hi, ?_⟩
          simp only [hb, Bool.not_false, Bool.true_and, ho, Option.map_some, Option.getD_some]
          rw [Array.all_eq_true_iff_forall_mem]
          intro e he
          rcases hbd : Region.binds .any e with _ | _
          · simp
          have hlt := lex_ready hlex (i := i) (o := ops[i]) (by simp [hi]) e he hbd
          have := ih e.on hlt (by omega)
          have h2 : listed.getD e.on false = true := by
            have hl : e.on < listed.size := by omega
            simp only [Array.getD, hl, dif_pos] at this ⊢
            exact this
          simp [h2]
        rw [hr] at hmem
        cases hmem
      · rfl
  intro fuel
  induction fuel with
  | zero =>
    intro listed a w hsz hc hI
    have hr : Region.ready .any ops listed = [] := by
      have h0 : ((List.range ops.size).filter fun i => !listed.getD i true) = [] := List.eq_nil_of_length_eq_zero (by omega)
      unfold Region.ready
      rw [List.filter_eq_nil_iff] at h0 ⊢
      intro i hi
      have := h0 i hi
      simp only [Bool.not_eq_true] at this
      rw [this]
      simp
    exact ⟨hr, hdone listed a w hsz hr hI⟩
  | succ fuel ih =>
    intro listed a w hsz hc hI
    refine ⟨fun hr => hdone listed a w hsz hr hI, fun i hi => ?_⟩
    unfold Region.ready at hi
    rw [List.mem_filter] at hi
    obtain ⟨hir, hi2⟩ := hi
    have hlt : i < ops.size := List.mem_range.1 hir
    have ho : ops[i]? = some ops[i] := Array.getElem?_eq_getElem hlt
    rw [ho] at hi2
    simp only [Option.map_some, Option.getD_some, Bool.and_eq_true] at hi2
    have hstep := AllFrom.get hs (i := i) (o := ops[i]) (by simp [hlt])
    rw [Nat.zero_add] at hstep
    refine wpOp_step ho fun K' hK' => ?_
    refine hstep _ a w K' ?_ hI ?_ (by simpa using hi2.1)
    · intro e he hb
      have := hi2.2
      rw [Array.all_eq_true_iff_forall_mem] at this
      have h3 := this e he
      rw [hb] at h3
      simp only [Bool.not_true, Bool.false_or] at h3
      have hl : e.on < listed.size := by
        rcases Nat.lt_or_ge e.on listed.size with h | h
        · exact h
        · simp [Array.getD, Nat.not_lt.2 h] at h3
      simp only [Array.getD, hl, dif_pos] at h3 ⊢
      exact h3
    · intro a' w' hI'
      refine hK' _ _ (ih _ a' w' (by simpa using hsz) ?_ ?_)
      · have hset : ((List.range ops.size).filter fun j => !(listed.setIfInBounds i true).getD j true) = ((List.range ops.size).filter fun j => !listed.getD j true).filter (fun j => !(j == i)) := by
          rw [List.filter_filter]
          congr 1
          funext j
          by_cases hji : j = i
          · subst hji
            have hl : j < listed.size := by omega
            simp [Array.getD, hl]
          · have : (listed.setIfInBounds i true).getD j true = listed.getD j true := by
              simp only [Array.getD, Array.size_setIfInBounds]
              split
              · rename_i hj; exact Array.getElem_setIfInBounds_ne hj (Ne.symm hji)
              · rfl
            rw [this]; simp [hji]
        rw [hset]
        have hin : i ∈ (List.range ops.size).filter fun j => !listed.getD j true := by
          rw [List.mem_filter]; exact ⟨hir, hi2.1⟩
        have := List.length_filter_lt_length_iff_exists (p := fun j => !(j == i)) (l := (List.range ops.size).filter fun j => !listed.getD j true)
        have h4 := this.2 ⟨i, hin, by simp⟩
        omega
      · have : (fun j => (listed.setIfInBounds i true).getD j true) = (fun j => j == i || listed.getD j true) := by
          funext j
          by_cases hji : j = i
          · subst hji
            have hl : j < listed.size := by omega
            simp [Array.getD, hl]
          · have : (listed.setIfInBounds i true).getD j true = listed.getD j true := by
              simp only [Array.getD, Array.size_setIfInBounds]
              split
              · rename_i hj; exact Array.getElem_setIfInBounds_ne hj (Ne.symm hji)
              · rfl
            rw [this]; simp [hji]
        rw [this]; exact hI'

theorem wp_region_inv {id : Nat} {l : List Oper} {a : Act} {w : World} (hm : P.follows .mixedOrders = true) (hlex : lexOk l = true) (I : Act → (Nat → Bool) → Act → World → Prop)
    (h0 : ∀ S, (∀ i, i < l.length → S i = false) → I a S a w.drew) (hs : AllFrom (StepInv P l.toArray Q (I a)) 0 l) (h1 : ∀ S a' w', (∀ i, i < l.length → S i = true) → I a S a' w' → Q .normal a' w') :
    (Code.region id l.toArray true).wp P Q a w := by
  refine wp_region_any hm (wpAny_inv (by simpa using hlex) (I a) (by simpa using hs) (by simpa using h1) _ _ a _ (by simp) ?_ (h0 _ ?_))
  · exact Nat.le_trans (List.length_filter_le _ _) (by simp)
  · intro i hi
    simp [Array.getD, hi]
end

end Go.Proofs.Ytoopopgbbkmcpaa
