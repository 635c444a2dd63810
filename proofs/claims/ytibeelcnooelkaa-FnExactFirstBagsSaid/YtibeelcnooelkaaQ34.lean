/- Several texts in one: BaO, Region, BaP, CoR. -/
import Derived.Test.YtibeelcnooelkaaQ33
import Derived.Test.YtibeelcnooelkaaQ10
import Derived.Orders
import Derived.RegionTactic
import Derived.Test.YtibeelcnooelkaaQ18
namespace Go.Proofs.Ytibeelcnooelkaa
open Go.Conc Go.RowKit
set_option linter.unusedVariables false
set_option linter.unusedSimpArgs false
set_option maxRecDepth 100000
theorem FreeI.hx {w w' : World} {lo hi n : Nat} {A : Option Addr} (h : FreeI w lo hi A n) (k : Hx w w') : FreeI w' lo hi A n := FreeI.same (w := { w' with heap := w.heap }) h (Same.ext k.to)
theorem FreeR.hx {w w' : World} {lo hi n : Nat} {A : Option Addr} (h : FreeR w lo hi A n) (k : Hx w w') : FreeR w' lo hi A n := FreeR.ext (w := { w' with heap := w.heap }) h k.to
theorem RI.hx {w w' : World} {A : Option Addr} {n : Nat} {xs : List Int} (h : RI w A n xs) (k : Hx w w') : RI w' A n xs := RI.ext (w := { w' with heap := w.heap }) h k.to
theorem RR.hx {w w' : World} {b : Bool} {A : Option Addr} {n : Nat} {rs : List Ru} (h : RR b w A n rs) (k : Hx w w') : RR b w' A n rs := RR.ext (w := { w' with heap := w.heap }) h k.to
theorem Hx.keep {w w' : World} (k : Hx w w') {p : Addr} {x : Value} (h : w.cell? p = some x) : w'.cell? p = some x := Ext.keep k.to h
section
variable {v0 v v' : World} {x0 : Sy} {PA0 PB0 : Option Addr} {pn0 pc0 pm0 pd0 : Nat} {a : Act}
theorem La.hx (h : La v0 x0 PA0 pn0 pc0 PB0 pm0 pd0 a v) (k : Hx v v') : La v0 x0 PA0 pn0 pc0 PB0 pm0 pd0 a v' := by
  obtain ⟨h0, h1, q1, A4, n4, c4, q6, A5, n5, c5, B5, m5, lo, hi, k1, k2, k3, k4, k5, k6, k7, k8, k9, k10, k11, k12, k13, k14, k15, k16, k17, k18, k19, k20, k21, k22⟩ := h
  exact ⟨h0, h1.trans k, q1, A4, n4, c4, q6, A5, n5, c5, B5, m5, lo, hi, k1, k.keep k2, k.keep k3, k4, k5, k6.hx k, k7, k.keep k8, k.keep k9, k10.hx k, k11.hx k, k12.hx k, k13.hx k, k14, k15, k16, k17, k18, Nat.lt_of_lt_of_le k19 k.1, k20, k21, k22⟩
theorem La.put {t : Nat} {x : Value} (h : La v0 x0 PA0 pn0 pc0 PB0 pm0 pd0 a v) (h1 : t ≠ 1) (h4 : t ≠ 4) (h5 : t ≠ 5) (h6 : t ≠ 6) : La v0 x0 PA0 pn0 pc0 PB0 pm0 pd0 (a.put (some t) x) v := by
  obtain ⟨e0, e1, q1, A4, n4, c4, q6, A5, n5, c5, B5, m5, lo, hi, k1, k2, k3, k4, k5, k6, k7, k8⟩ := h
  exact ⟨by rw [put_size, e0], e1, q1, A4, n4, c4, q6, A5, n5, c5, B5, m5, lo, hi, by rw [put_get, if_neg h1, k1], k2, k3, by rw [put_get, if_neg h4, k4], by rw [put_get, if_neg h5, k5], k6, by rw [put_get, if_neg h6, k7], k8⟩
theorem La.ins : Ins (La v0 x0 PA0 pn0 pc0 PB0 pm0 pd0) := fun a v τ d h => h
def Own7 (x0 : Sy) (B : Nat) (x y : Value) (v : World) : Prop := ∃ A n c, x = .slice A n c ∧ y = .bool (ansF false x0).isSome ∧ OwI v B A n c ((ansF false x0).getD [])
theorem own7 {B : Nat} {x y : Value} (h : ResF B (ansF false x0) (.tuple #[x, y]) v) : Own7 x0 B x y v := by
  unfold Own7
  cases ho : ansF false x0 with
  | none =>
    rw [ho] at h
    have h : Value.tuple #[x, y] = .tuple #[.slice none 0 0, .bool false] := h
    injection h with h
    injection h with h
    injection h with h1 h2
    injection h2 with h2
    exact ⟨none, 0, 0, h1, h2, ⟨by omega, World.ownsRow_nil _ _ _ _⟩⟩
  | some us =>
    rw [ho] at h
    obtain ⟨b, n, cp, h, h2⟩ := h
    injection h with h
    injection h with h
    injection h with h1 h3
    injection h3 with h3
    exact ⟨_, n, cp, h1, h3, h2⟩
def Lb (v0 : World) (x0 : Sy) (PA0 : Option Addr) (pn0 pc0 : Nat) (PB0 : Option Addr) (pm0 pd0 : Nat) (a : Act) (v : World) : Prop :=
  La v0 x0 PA0 pn0 pc0 PB0 pm0 pd0 a v ∧ ∃ q6 B x y, a.tmps[6]? = some (.pointer (some ⟨q6, 0, none⟩)) ∧ q6 < B ∧ B ≤ v.heap.size ∧ a.tmps[7]? = some x ∧ a.tmps[8]? = some y ∧ Own7 x0 B x y v
end
theorem run_ld6 (a : Act) (w : World) (o : Oper) (q n c m d : Nat) (A B : Option Addr) (hop : o.op = .load 32 (.tmp 6)) (hx : a.eval (.tmp 6) = .pointer (some ⟨q, 0, none⟩)) (h : w.cell? ⟨q, 0, none⟩ = some (.slice A n c)) (h1 : w.cell? ⟨q, 1, none⟩ = some (.slice B m d)) : (execOp a.eval o).run Try.prog w = .ok (.value (.agg #[.slice A n c, .slice B m d])) w := by
  simp only [Act.eval, Array.getD_eq_getD_getElem?] at hx
  unfold execOp
  simp only [hop]
  simp [go_sem, hx, h, h1]
section
variable {m : Nat} {A : An} {Post : Value → World → Prop} {K : Nat} {StA : Set_ → Goroutine → World → Prop} {x0 : Sy} {PA0 PB0 : Option Addr} {pn0 pc0 pm0 pd0 : Nat} {k : List Item}
theorem bWe : (base 5).kind ≠ .early := by simp [base]
theorem bW : (base 5).kind = .normal := rfl
theorem law7 (hSo : Offs StA) (hoS : Offs (ScrS Try.prog Post K)) (hK : Script_ Try.prog Post K = Co Try.prog true StA) (hmono : ∀ O g w, StA O g w → ScrS Try.prog Post K O g w)
    (hn : Wk Try.prog (LM m) true StA A (base 5) [] k (Lb A.v x0 PA0 pn0 pc0 PB0 pm0 pd0)) : Wk Try.prog (LM m) true (ScrS Try.prog Post K) A (base 5) [] (.code lw6 :: k) (La A.v x0 PA0 pn0 pc0 PB0 pm0 pd0) := by
  simp only [lw6, bodyW, Try.f5, Option.getD_some]
  refine Wk.reg (l := [0, 1, 2, 3, 4, 5, 6]) rfl ?_
  refine Wk.op (X m) bWe rfl (d := some 28) rfl (xtmp (m := m) 6) La.ins (Ψ := fun a v => La A.v x0 PA0 pn0 pc0 PB0 pm0 pd0 a v ∧ ∃ A5 n5 c5 B5 m5, a.tmps[28]? = some (.agg #[.slice A5 n5 c5, .slice B5 m5 m5]) ∧ RI v A5 n5 x0.ar ∧ RR true v B5 m5 x0.rs) (fun a v h _ => ?_) ?_
  · have h' := h
    obtain ⟨h0, h1, q1, A4, n4, c4, q6, A5, n5, c5, B5, m5, lo, hi, k1, k2, k3, k4, k5, k6, k7, k8, k9, k10, k11, _⟩ := h
    exact ⟨by rfl, .inl ⟨_, _, run_ld6 a v _ q6 _ _ _ _ _ _ rfl (eval_tmp k7) k8 k9, h'.put (by decide) (by decide) (by decide) (by decide), A5, n5, c5, B5, m5, by rw [put_get, if_pos rfl, if_pos (by rw [h0]; decide)], k10, k11⟩⟩
  intro γ ag a v w O hp k2 k3 k4 k5 k6 k7
  obtain ⟨hLa, A5, n5, c5, B5, m5, h28, hri, hrr⟩ := hp
  refine co_into bWe rfl rfl rfl Try.func10 (by rfl) (c := bodyQB) rfl (fun x hx => by simp at hx; subst hx; exact trivial) k2 k3 k4 k5 k6 ?_
  refine (fr_wkB (A := ⟨O, γ, v, w⟩) (s := x0) hSo hoS hK hmono ?_).mono fun a' v' h => ?_
  · intro γ2 x y v2 w2 O2 hout hxy hW2 hN2 hA2
    rw [Frame.finish_at]
    obtain ⟨y0, y1, rfl⟩ := hout.pair
    have hH := hout.1
    have hO7 := own7 (x0 := x0) hout.2
    have hz : ag.tmps.size = 96 := hLa.1
    have hLa2 := (hLa.hx hH)
    obtain ⟨_, _, q1, A4, n4, c4, q6, _, _, _, _, _, lo, hi, _, _, _, _, _, _, e6, _, _, _, _, _, _, _, _, _, _, _, hq6, _⟩ := hLa
    refine Wk.use (Φ := fun a v' => La A.v x0 PA0 pn0 pc0 PB0 pm0 pd0 a v' ∧ a.tmps[29]? = some (.tuple #[y0, y1]) ∧ (a.tmps[6]? = some (.pointer (some ⟨q6, 0, none⟩)) ∧ q6 < v.heap.size ∧ v.heap.size ≤ v'.heap.size ∧ Own7 x0 v.heap.size y0 y1 v')) (ag := ag.put (some 29) (.tuple #[y0, y1])) ⟨hLa2.put (by decide) (by decide) (by decide) (by decide), by rw [put_get, if_pos rfl, if_pos (by rw [hz]; decide)], by rw [put_get, if_neg (by decide), e6], hq6, hH.1, hO7⟩ (by rw [put_defers, k2]) (by rw [put_defers, k3]) ((k4.mono hA2.le).put _ hxy) hW2 hN2 (k7.trans hA2) ?_
    clear hLa2 hout hxy hO7 hH
    refine Wk.mv (X m) bWe rfl (.inl rfl) rfl (d := some 27) rfl (xtmp 29) (Ψ := fun a v' => La A.v x0 PA0 pn0 pc0 PB0 pm0 pd0 a v' ∧ a.tmps[27]? = some (.tuple #[y0, y1]) ∧ (a.tmps[6]? = some (.pointer (some ⟨q6, 0, none⟩)) ∧ q6 < v.heap.size ∧ v.heap.size ≤ v'.heap.size ∧ Own7 x0 v.heap.size y0 y1 v')) (fun a v h => ⟨h.1.put (by decide) (by decide) (by decide) (by decide), by rw [put_get, if_pos rfl, if_pos (by rw [h.1.1]; decide), eval_tmp h.2.1], by rw [put_get, if_neg (by decide), h.2.2.1], h.2.2.2⟩) ?_
    refine Wk.op (X m) bWe rfl (d := some 30) rfl (xtmp (m := m) 27) (fun a v τ d h => h) (Ψ := fun a v' => (La A.v x0 PA0 pn0 pc0 PB0 pm0 pd0 a v' ∧ a.tmps[27]? = some (.tuple #[y0, y1]) ∧ (a.tmps[6]? = some (.pointer (some ⟨q6, 0, none⟩)) ∧ q6 < v.heap.size ∧ v.heap.size ≤ v'.heap.size ∧ Own7 x0 v.heap.size y0 y1 v')) ∧ a.tmps[30]? = some y0) (fun a v h _ => ⟨by rfl, .inl ⟨_, _, run_ex7 a v _ y0 y1 0 27 rfl (eval_tmp h.2.1) (by decide), ⟨h.1.put (by decide) (by decide) (by decide) (by decide), by rw [put_get, if_neg (by decide), h.2.1], by rw [put_get, if_neg (by decide), h.2.2.1], h.2.2.2⟩, by rw [put_get, if_pos rfl, if_pos (by rw [h.1.1]; decide)]; rfl⟩⟩) ?_
    refine Wk.op (X m) bWe rfl (d := some 31) rfl (xtmp (m := m) 27) (fun a v τ d h => h) (Ψ := fun a v' => (La A.v x0 PA0 pn0 pc0 PB0 pm0 pd0 a v' ∧ (a.tmps[6]? = some (.pointer (some ⟨q6, 0, none⟩)) ∧ q6 < v.heap.size ∧ v.heap.size ≤ v'.heap.size ∧ Own7 x0 v.heap.size y0 y1 v')) ∧ a.tmps[30]? = some y0 ∧ a.tmps[31]? = some y1) (fun a v h _ => ⟨by rfl, .inl ⟨_, _, run_ex7 a v _ y0 y1 1 27 rfl (eval_tmp h.1.2.1) (by decide), ⟨h.1.1.put (by decide) (by decide) (by decide) (by decide), by rw [put_get, if_neg (by decide), h.1.2.2.1], h.1.2.2.2⟩, by rw [put_get, if_neg (by decide), h.2], by rw [put_get, if_pos rfl, if_pos (by rw [h.1.1.1]; decide)]; rfl⟩⟩) ?_
    refine Wk.mv (X m) bWe rfl (.inr rfl) rfl (d := some 7) rfl (xtmp 30) (Ψ := fun a v' => (La A.v x0 PA0 pn0 pc0 PB0 pm0 pd0 a v' ∧ (a.tmps[6]? = some (.pointer (some ⟨q6, 0, none⟩)) ∧ q6 < v.heap.size ∧ v.heap.size ≤ v'.heap.size ∧ Own7 x0 v.heap.size y0 y1 v')) ∧ a.tmps[7]? = some y0 ∧ a.tmps[31]? = some y1) (fun a v h => ⟨⟨h.1.1.put (by decide) (by decide) (by decide) (by decide), by rw [put_get, if_neg (by decide), h.1.2.1], h.1.2.2⟩, by rw [put_get, if_pos rfl, if_pos (by rw [h.1.1.1]; decide), eval_tmp h.2.1], by rw [put_get, if_neg (by decide), h.2.2]⟩) ?_
    refine Wk.mv (X m) bWe rfl (.inr rfl) rfl (d := some 8) rfl (xtmp 31) (Ψ := Lb A.v x0 PA0 pn0 pc0 PB0 pm0 pd0) (fun a v' h => ⟨h.1.1.put (by decide) (by decide) (by decide) (by decide), q6, v.heap.size, y0, y1, by rw [put_get, if_neg (by decide), h.1.2.1], h.1.2.2.1, h.1.2.2.2.1, by rw [put_get, if_neg (by decide), h.2.1], by rw [put_get, if_pos rfl, if_pos (by rw [h.1.1.1]; decide), eval_tmp h.2.2], h.1.2.2.2.2⟩) (Wk.regionEnd hn)
  · obtain ⟨rfl, rfl⟩ := h
    refine ⟨A5, n5, c5, B5, m5, m5, ?_, hri, hrr, Hx.refl _⟩
    have e : (#[Operand.tmp 28].map ag.eval) = #[.agg #[.slice A5 n5 c5, .slice B5 m5 m5]] := by simp [eval_tmp h28]
    show Act.mk (_ ++ _) [] = _
    rw [e]
    simp [litQ, Try.ntmps10]
end
end Go.Proofs.Ytibeelcnooelkaa
namespace Go.Proofs.Ytibeelcnooelkaa
open Go.RowKit
def AllFrom (p : Nat → Oper → Prop) : Nat → List Oper → Prop
  | _, [] => True
  | k, o :: l => p k o ∧ AllFrom p (k + 1) l
theorem AllFrom.get {p : Nat → Oper → Prop} : ∀ {l : List Oper} {k i : Nat} {o : Oper}, AllFrom p k l → l[i]? = some o → p (k + i) o
  | [], _, _, _, _, h => by simp at h
  | o :: l, k, 0, o', h, hi => by simp at hi; subst hi; simpa using h.1
  | o :: l, k, i + 1, o', h, hi => by
    have := AllFrom.get h.2 (by simpa using hi)
    rwa [Nat.add_assoc, Nat.add_comm 1 i] at this
def lexOk (l : List Oper) : Bool := l.zipIdx.all fun (o, i) => o.after.all fun e => !Region.binds .any e || decide (e.on < i)
section
variable {P : Program} {ops : Array Oper} {Q : Exit → Act → World → Prop}
def StepInv (P : Program) (ops : Array Oper) (Q : Exit → Act → World → Prop) (I : (Nat → Bool) → Act → World → Prop) (i : Nat) (o : Oper) : Prop :=
  ∀ (S : Nat → Bool) (a : Act) (w : World) (K : Act → World → Prop), (∀ e ∈ o.after, Region.binds .any e = true → S e.on = true) → I S a w → (∀ a w, I (fun j => j == i || S j) a w → K a w) → S i = false →
    if Region.wanted o (yielded ops a.tmps) = true then o.wp P a w K Q else K (a.put o.dst undef) w
theorem StepInv.plain {I : (Nat → Bool) → Act → World → Prop} {i : Nat} {o : Oper} (hg : o.guard = none)
    (h : ∀ (S : Nat → Bool) (a : Act) (w : World) (K : Act → World → Prop), (∀ e ∈ o.after, Region.binds .any e = true → S e.on = true) → I S a w → (∀ a w, I (fun j => j == i || S j) a w → K a w) → o.wp P a w K Q) : StepInv P ops Q I i o := by
  intro S a w K h1 h2 h3 _
  rw [if_pos (by simp [Region.wanted, hg])]
  exact h S a w K h1 h2 h3
theorem lex_ready {l : List Oper} (h : lexOk l = true) {i : Nat} {o : Oper} (ho : l[i]? = some o) : ∀ e ∈ o.after, Region.binds .any e = true → e.on < i := by
  intro e he hb
  unfold lexOk at h
  rw [List.all_eq_true] at h
  have hm : (o, i) ∈ l.zipIdx := by
    rw [List.mem_iff_getElem?]
    exact ⟨i, by simp [List.getElem?_zipIdx, ho]⟩
  have := h _ hm
  simp only [Array.all_eq_true_iff_forall_mem] at this
  have := this e he
  rw [hb] at this
  simpa using this
theorem wpAny_inv (hlex : lexOk ops.toList = true) (I : (Nat → Bool) → Act → World → Prop)
    (hs : AllFrom (StepInv P ops Q I) 0 ops.toList) (h1 : ∀ S a w, (∀ i, i < ops.size → S i = true) → I S a w → Q .normal a w) :
    ∀ (fuel : Nat) (listed : Array Bool) (a : Act) (w : World), listed.size = ops.size → ((List.range ops.size).filter fun i => !listed.getD i true).length ≤ fuel →
      I (fun i => listed.getD i true) a w → wpAny P .any ops Q fuel listed a w := by
  have hdone : ∀ (listed : Array Bool) (a : Act) (w : World), listed.size = ops.size → Region.ready .any ops listed = [] → I (fun i => listed.getD i true) a w → Q .normal a w := by
    intro listed a w hsz hr hI
    refine h1 _ a w ?_ hI
    intro i
    induction i using Nat.strongRecOn with
    | _ i ih =>
      intro hi
      rcases hb : listed.getD i true with _ | _
      · exfalso
        have ho : ops[i]? = some ops[i] := Array.getElem?_eq_getElem hi
        have hmem : i ∈ Region.ready .any ops listed := by
          unfold Region.ready
          rw [List.mem_filter]
          refine ⟨List.mem_range.2 hi, ?_⟩
          simp only [hb, Bool.not_false, Bool.true_and, ho, Option.map_some, Option.getD_some]
          rw [Array.all_eq_true_iff_forall_mem]
          intro e he
          rcases hbd : Region.binds .any e with _ | _
          · simp
          have hlt := lex_ready hlex (i := i) (o := ops[i]) (by simp [hi]) e he hbd
          have := ih e.on hlt (by omega)
          have h2 : listed.getD e.on false = true := by
            have hl : e.on < listed.size := by omega
            simp only [Array.getD, hl, dif_pos] at this ⊢
            exact this
          simp [h2]
        rw [hr] at hmem
        cases hmem
      · rfl
  intro fuel
  induction fuel with
  | zero =>
    intro listed a w hsz hc hI
    have hr : Region.ready .any ops listed = [] := by
      have h0 : ((List.range ops.size).filter fun i => !listed.getD i true) = [] := List.eq_nil_of_length_eq_zero (by omega)
      unfold Region.ready
      rw [List.filter_eq_nil_iff] at h0 ⊢
      intro i hi
      have := h0 i hi
      simp only [Bool.not_eq_true] at this
      rw [this]
      simp
    exact ⟨hr, hdone listed a w hsz hr hI⟩
  | succ fuel ih =>
    intro listed a w hsz hc hI
    refine ⟨fun hr => hdone listed a w hsz hr hI, fun i hi => ?_⟩
    unfold Region.ready at hi
    rw [List.mem_filter] at hi
    obtain ⟨hir, hi2⟩ := hi
    have hlt : i < ops.size := List.mem_range.1 hir
    have ho : ops[i]? = some ops[i] := Array.getElem?_eq_getElem hlt
    rw [ho] at hi2
    simp only [Option.map_some, Option.getD_some, Bool.and_eq_true] at hi2
    have hstep := AllFrom.get hs (i := i) (o := ops[i]) (by simp [hlt])
    rw [Nat.zero_add] at hstep
    refine wpOp_step ho fun K' hK' => ?_
    refine hstep _ a w K' ?_ hI ?_ (by simpa using hi2.1)
    · intro e he hb
      have := hi2.2
      rw [Array.all_eq_true_iff_forall_mem] at this
      have h3 := this e he
      rw [hb] at h3
      simp only [Bool.not_true, Bool.false_or] at h3
      have hl : e.on < listed.size := by
        rcases Nat.lt_or_ge e.on listed.size with h | h
        · exact h
        · simp [Array.getD, Nat.not_lt.2 h] at h3
      simp only [Array.getD, hl, dif_pos] at h3 ⊢
      exact h3
    · intro a' w' hI'
      refine hK' _ _ (ih _ a' w' (by simpa using hsz) ?_ ?_)
      · have hset : ((List.range ops.size).filter fun j => !(listed.setIfInBounds i true).getD j true) = ((List.range ops.size).filter fun j => !listed.getD j true).filter (fun j => !(j == i)) := by
          rw [List.filter_filter]
          congr 1
          funext j
          by_cases hji : j = i
          · subst hji
            have hl : j < listed.size := by omega
            simp [Array.getD, hl]
          · have : (listed.setIfInBounds i true).getD j true = listed.getD j true := by
              simp only [Array.getD, Array.size_setIfInBounds]
              split
              · rename_i hj; exact Array.getElem_setIfInBounds_ne hj (Ne.symm hji)
              · rfl
            rw [this]; simp [hji]
        rw [hset]
        have hin : i ∈ (List.range ops.size).filter fun j => !listed.getD j true := by
          rw [List.mem_filter]; exact ⟨hir, hi2.1⟩
        have := List.length_filter_lt_length_iff_exists (p := fun j => !(j == i)) (l := (List.range ops.size).filter fun j => !listed.getD j true)
        have h4 := this.2 ⟨i, hin, by simp⟩
        omega
      · have : (fun j => (listed.setIfInBounds i true).getD j true) = (fun j => j == i || listed.getD j true) := by
          funext j
          by_cases hji : j = i
          · subst hji
            have hl : j < listed.size := by omega
            simp [Array.getD, hl]
          · have : (listed.setIfInBounds i true).getD j true = listed.getD j true := by
              simp only [Array.getD, Array.size_setIfInBounds]
              split
              · rename_i hj; exact Array.getElem_setIfInBounds_ne hj (Ne.symm hji)
              · rfl
            rw [this]; simp [hji]
        rw [this]; exact hI'
theorem wp_region_inv {id : Nat} {l : List Oper} {a : Act} {w : World} (hm : P.follows .mixedOrders = true) (hlex : lexOk l = true) (I : Act → (Nat → Bool) → Act → World → Prop)
    (h0 : ∀ S, (∀ i, i < l.length → S i = false) → I a S a w.drew) (hs : AllFrom (StepInv P l.toArray Q (I a)) 0 l) (h1 : ∀ S a' w', (∀ i, i < l.length → S i = true) → I a S a' w' → Q .normal a' w') :
    (Code.region id l.toArray true).wp P Q a w := by
  refine wp_region_any hm (wpAny_inv (by simpa using hlex) (I a) (by simpa using hs) (by simpa using h1) _ _ a _ (by simp) ?_ (h0 _ ?_))
  · exact Nat.le_trans (List.length_filter_le _ _) (by simp)
  · intro i hi
    simp [Array.getD, hi]
end
end Go.Proofs.Ytibeelcnooelkaa
namespace Go.Proofs.Ytibeelcnooelkaa
open Go.Conc Go.ChangeShapes Go.WideShapes Go.ChangeAt Go.RowKit
set_option linter.unusedVariables false
set_option linter.unusedSimpArgs false
set_option maxRecDepth 100000
def Lc (v0 : World) (x0 : Sy) (PA0 : Option Addr) (pn0 pc0 : Nat) (PB0 : Option Addr) (pm0 pd0 : Nat) (a : Act) (v : World) : Prop :=
  a.tmps.size = 96 ∧ Hx v0 v ∧ ∃ q1 A4 n4 c4 A7 n7 c7, a.tmps[1]? = some (.pointer (some ⟨q1, 0, none⟩)) ∧ v.cell? ⟨q1, 0, none⟩ = some (.slice PA0 pn0 pc0) ∧ v.cell? ⟨q1, 1, none⟩ = some (.slice PB0 pm0 pd0) ∧
    a.tmps[4]? = some (.slice A4 n4 c4) ∧ a.tmps[5]? = some (.bool (ansF false x0).isSome) ∧ RI v A4 n4 ((ansF false x0).getD []) ∧ a.tmps[7]? = some (.slice A7 n7 c7) ∧ RI v A7 n7 (marks 1 n7) ∧ n7 ≤ 4194304 ∧ a.tmps[10]? = some (.int .i64 (1 + n7)) ∧
    RI v0 PA0 pn0 x0.ar ∧ RR false v0 PB0 pm0 x0.rs
set_option maxHeartbeats 4000000 in
theorem chunkB {v0 w : World} {x0 : Sy} {PA0 PB0 : Option Addr} {pn0 pc0 pm0 pd0 : Nat} {a : Act} (h : Lb v0 x0 PA0 pn0 pc0 PB0 pm0 pd0 a w) (hd : a.defers = []) :
    wpS Try.prog [lw7, lw8, lw9, lw10, lw11, lw12, lw13, lw14, lw15, lw16, lw17] (fun e a' v' => (e = .normal ∧ Lc v0 x0 PA0 pn0 pc0 PB0 pm0 pd0 a' v') ∨ (e = .ret ∧ a'.tmps.size = 96 ∧ a'.tmps[2]? = some (.bool true) ∧ Hx v0 v')) a w := by
  obtain ⟨⟨hsz, hH, q1, A4, n4, c4, q6, A5, n5, c5, B5, m5, lo, hi, e1, bx0, bx1, e4, e5, hA4, e6, by0, by1, hA5, hB5, hF5, hG5, hN5, hD5, hq1v, ⟨hq1, hlh⟩, hq6, hq6w, hA4lo, hP1, hP2⟩, q6', BB, y, z, e6', hqB, hBw, e7, e8, A7, n7, c7, rfl, rfl, hO7⟩ := h
  obtain rfl : q6' = q6 := by rw [e6] at e6'; cases e6'; rfl
  clear e6'
  obtain ⟨oo, hoo⟩ : ∃ oo, oo = ansF false x0 := ⟨_, rfl⟩
  rw [← hoo] at e5 hA4 e8 hO7
  have HOO := Lib.hid hoo.symm
  clear hoo
  obtain ⟨bb, hbb⟩ : ∃ bb, bb = oo.isSome := ⟨_, rfl⟩
  rw [← hbb] at e5 e8
  have HBB := Lib.hid hbb
  clear hbb
  obtain ⟨tm, df⟩ := a
  simp only at hd hsz e1 e4 e5 e6 e7 e8
  subst hd
  obtain ⟨tv0, tv1, tv2, tv3, tv4, tv5, tv6, tv7, tv8, tv9, tv10, tv11, tv12, tv13, tv14, tv15, tv16, tv17, tv18, tv19, tv20, tv21, tv22, tv23, tv24, tv25, tv26, tv27, tv28, tv29, tv30, tv31, tv32, tv33, tv34, tv35, tv36, tv37, tv38, tv39, tv40, tv41, tv42, tv43, tv44, tv45, tv46, tv47, tv48, tv49, tv50, tv51, tv52, tv53, tv54, tv55, tv56, tv57, tv58, tv59, tv60, tv61, tv62, tv63, tv64, tv65, tv66, tv67, tv68, tv69, tv70, tv71, tv72, tv73, tv74, tv75, tv76, tv77, tv78, tv79, tv80, tv81, tv82, tv83, tv84, tv85, tv86, tv87, tv88, tv89, tv90, tv91, tv92, tv93, tv94, tv95, hTm⟩ := lit96 hsz
  subst hTm
  simp at e1 e4 e5 e6 e7 e8
  subst e1; subst e4; subst e5; subst e6; subst e7; subst e8
  have HH := Lib.hid hH
  have HR4 := Lib.hid hA4
  have HR5 := Lib.hid hA5
  have HS5 := Lib.hid hB5
  have HF5 := Lib.hid hF5
  have HG5 := Lib.hid hG5
  have HN5 := Lib.hid hN5
  have HD5 := Lib.hid hD5
  have HL4 := Lib.hid hA4lo
  have HO7 := Lib.hid hO7
  have HZ := Lib.hid (And.intro hP1 hP2)
  have H0 := Lib.hid (hP1.hx hH)
  have H0b := Lib.hid (hP2.hx hH)
  clear hA4 hA5 hB5 hF5 hG5 hN5 hD5 hA4lo hO7 hP1 hP2 hH hsz
  refine wpS_cons ?_
  simp only [lw7, bodyW, Try.f5, Option.getD_some]
  go_wp2_with fail
  (with_reducible refine (c_eqInt64S_self (RdI.mk HO7.out.ri) (RdI.mk HR4.out)).mono ?_); rintro e w1 ⟨rfl, hE1⟩; have hz1 := sz_of hE1; (try simp only [World.size_alloc, World.size_setCell, World.size_drew] at hz1); obtain ⟨hc1, hf1⟩ := bcell hE1; (try have hq1_0 : w.heap.size < w1.heap.size := by omega); (try have hq1_1 : w.heap.size + 1 < w1.heap.size := by omega); (try have hq1_2 : w.heap.size + 1 + 1 < w1.heap.size := by omega); (try have hq1_3 : w.heap.size + 1 + 1 + 1 < w1.heap.size := by omega); (try have hq1_4 : w.heap.size + 1 + 1 + 1 + 1 < w1.heap.size := by omega); (try have hq1_5 : w.heap.size + 1 + 1 + 1 + 1 + 1 < w1.heap.size := by omega)
  go_wp2_with fail
  refine wpS_cons ?_
  simp only [lw8, bodyW, Try.f5, Option.getD_some]
  have bp0 := Ext.keep hE1 bx0
  have bp1 := Ext.keep hE1 bx1
  have bp2 := Ext.keep hE1 by0
  have bp3 := Ext.keep hE1 by1
  go_wp2_with fail
  refine wp_region_inv (by kernel_rfl) (by kernel_rfl) (fun a0 S a w' => ∃ u41 u42 u43 u44 u45 : Value, a = (((((a0.put (some 41) u41).put (some 42) u42).put (some 43) u43).put (some 44) u44).put (some 45) u45) ∧ Ext w1 w' ∧ (S 0 = true → u41 = .agg #[.slice A5 n5 c5, .slice B5 m5 m5]) ∧ (S 1 = true → u42 = .agg #[.slice PA0 pn0 pc0, .slice PB0 pm0 pd0]) ∧ (S 2 = true → RdSyC w' u43 x0) ∧ (S 3 = true → u44 = .bool true) ∧ (S 4 = true → u45 = .bool false)) ?_ ?_ ?_
  · intro S hS
    exact ⟨tv41, tv42, tv43, tv44, tv45, by simp only [Act.put, List.setIfInBounds_toArray, List.set_cons_zero, List.set_cons_succ], Ext.drew (Ext.refl _), fun h => absurd ((hS 0 (by decide)).symm.trans h) (by decide), fun h => absurd ((hS 1 (by decide)).symm.trans h) (by decide), fun h => absurd ((hS 2 (by decide)).symm.trans h) (by decide), fun h => absurd ((hS 3 (by decide)).symm.trans h) (by decide), fun h => absurd ((hS 4 (by decide)).symm.trans h) (by decide)⟩
  · refine ⟨?_, ?_, ?_, ?_, ?_, trivial⟩
    · refine StepInv.plain rfl fun S a w' K hdep hI hK0 => ?_
      obtain ⟨u41, u42, u43, u44, u45, ha, hE', p0, p1, p2, p3, p4⟩ := hI
      simp only [Act.put, List.setIfInBounds_toArray, List.set_cons_zero, List.set_cons_succ] at ha
      subst ha
      have hK := Lib.hid hK0; clear hK0
      clear hdep
      have k0 := Ext.keep hE' bp0; have k1 := Ext.keep hE' bp1; have k2 := Ext.keep hE' bp2; have k3 := Ext.keep hE' bp3
      go_wp2_with fail
      exact hK.out _ _ ⟨.agg #[.slice A5 n5 c5, .slice B5 m5 m5], u42, u43, u44, u45, by simp only [Act.put, List.setIfInBounds_toArray, List.set_cons_zero, List.set_cons_succ], by exact extX, fun _ => rfl, fun h => (p1 (by simpa using h)), fun h => (p2 (by simpa using h)), fun h => (p3 (by simpa using h)), fun h => (p4 (by simpa using h))⟩
    · refine StepInv.plain rfl fun S a w' K hdep hI hK0 => ?_
      obtain ⟨u41, u42, u43, u44, u45, ha, hE', p0, p1, p2, p3, p4⟩ := hI
      simp only [Act.put, List.setIfInBounds_toArray, List.set_cons_zero, List.set_cons_succ] at ha
      subst ha
      have hK := Lib.hid hK0; clear hK0
      clear hdep
      have k0 := Ext.keep hE' bp0; have k1 := Ext.keep hE' bp1; have k2 := Ext.keep hE' bp2; have k3 := Ext.keep hE' bp3
      go_wp2_with fail
      exact hK.out _ _ ⟨u41, .agg #[.slice PA0 pn0 pc0, .slice PB0 pm0 pd0], u43, u44, u45, by simp only [Act.put, List.setIfInBounds_toArray, List.set_cons_zero, List.set_cons_succ], by exact extX, fun h => (p0 (by simpa using h)), fun _ => rfl, fun h => (p2 (by simpa using h)), fun h => (p3 (by simpa using h)), fun h => (p4 (by simpa using h))⟩
    · refine StepInv.plain rfl fun S a w' K hdep hI hK0 => ?_
      obtain ⟨u41, u42, u43, u44, u45, ha, hE', p0, p1, p2, p3, p4⟩ := hI
      simp only [Act.put, List.setIfInBounds_toArray, List.set_cons_zero, List.set_cons_succ] at ha
      subst ha
      have hK := Lib.hid hK0; clear hK0
      have d1 := p1 (hdep ⟨1, Ground.data⟩ (by simp) rfl)
      obtain rfl := d1
      clear hdep
      have k0 := Ext.keep hE' bp0; have k1 := Ext.keep hE' bp1; have k2 := Ext.keep hE' bp2; have k3 := Ext.keep hE' bp3
      go_wp2_with (go_at_call 17; (with_reducible refine (c_toSystem (by (first | (first | (with_reducible exact RdI.mk (RI.ext (Hid.out (by with_reducible assumption)) (by exact extX))) | (with_reducible exact RdI.ext (by with_reducible assumption) (by exact extX))) | (with_reducible exact RdSyK.mk (by (first | (with_reducible exact RI.ext (Hid.out (by with_reducible assumption)) (by exact extX)))) (RR.ext (Hid.out (by with_reducible assumption)) (by exact extX))) | (with_reducible exact RdSyK.ext (by with_reducible assumption) (by exact extX)) | (with_reducible exact RdSig.mk (by (first | (with_reducible exact RI.ext (Hid.out (by with_reducible assumption)) (by exact extX))))) | (with_reducible exact RdSig.ext (by with_reducible assumption) (by exact extX))))).mono ?_); intro e w'' hr; obtain ⟨v, rfl, hr, hE''⟩ := hr.out)
      exact hK.out _ _ ⟨u41, .agg #[.slice PA0 pn0 pc0, .slice PB0 pm0 pd0], v, u44, u45, by simp only [Act.put, List.setIfInBounds_toArray, List.set_cons_zero, List.set_cons_succ], by exact extX, fun h => (p0 (by simpa using h)), fun _ => rfl, fun _ => hr, fun h => (p3 (by simpa using h)), fun h => (p4 (by simpa using h))⟩
    · refine StepInv.plain rfl fun S a w' K hdep hI hK0 => ?_
      obtain ⟨u41, u42, u43, u44, u45, ha, hE', p0, p1, p2, p3, p4⟩ := hI
      simp only [Act.put, List.setIfInBounds_toArray, List.set_cons_zero, List.set_cons_succ] at ha
      subst ha
      have hK := Lib.hid hK0; clear hK0
      have d0 := p0 (hdep ⟨0, Ground.data⟩ (by simp) rfl)
      obtain rfl := d0
      have d2 := p2 (hdep ⟨2, Ground.data⟩ (by simp) rfl)
      clear hdep
      have k0 := Ext.keep hE' bp0; have k1 := Ext.keep hE' bp1; have k2 := Ext.keep hE' bp2; have k3 := Ext.keep hE' bp3
      go_wp2_with (go_at_call 19; (with_reducible refine (c_eqSystem_self (by (first | (first | (with_reducible exact RdI.mk (RI.ext (Hid.out (by with_reducible assumption)) (by exact extX))) | (with_reducible exact RdI.ext (by with_reducible assumption) (by exact extX))) | (with_reducible exact RdSyK.mk (by (first | (with_reducible exact RI.ext (Hid.out (by with_reducible assumption)) (by exact extX)))) (RR.ext (Hid.out (by with_reducible assumption)) (by exact extX))) | (with_reducible exact RdSyK.ext (by with_reducible assumption) (by exact extX)) | (with_reducible exact RdSig.mk (by (first | (with_reducible exact RI.ext (Hid.out (by with_reducible assumption)) (by exact extX))))) | (with_reducible exact RdSig.ext (by with_reducible assumption) (by exact extX)))) (by (first | (first | (with_reducible exact RdI.mk (RI.ext (Hid.out (by with_reducible assumption)) (by exact extX))) | (with_reducible exact RdI.ext (by with_reducible assumption) (by exact extX))) | (with_reducible exact RdSyK.mk (by (first | (with_reducible exact RI.ext (Hid.out (by with_reducible assumption)) (by exact extX)))) (RR.ext (Hid.out (by with_reducible assumption)) (by exact extX))) | (with_reducible exact RdSyK.ext (by with_reducible assumption) (by exact extX)) | (with_reducible exact RdSig.mk (by (first | (with_reducible exact RI.ext (Hid.out (by with_reducible assumption)) (by exact extX))))) | (with_reducible exact RdSig.ext (by with_reducible assumption) (by exact extX))))).mono ?_); rintro e w'' ⟨rfl, hE''⟩)
      exact hK.out _ _ ⟨.agg #[.slice A5 n5 c5, .slice B5 m5 m5], u42, u43, .bool true, u45, by simp only [Act.put, List.setIfInBounds_toArray, List.set_cons_zero, List.set_cons_succ], by exact extX, fun _ => rfl, fun h => (p1 (by simpa using h)), fun _ => d2.ext (by exact extX), fun _ => rfl, fun h => (p4 (by simpa using h))⟩
    · refine StepInv.plain rfl fun S a w' K hdep hI hK0 => ?_
      obtain ⟨u41, u42, u43, u44, u45, ha, hE', p0, p1, p2, p3, p4⟩ := hI
      simp only [Act.put, List.setIfInBounds_toArray, List.set_cons_zero, List.set_cons_succ] at ha
      subst ha
      have hK := Lib.hid hK0; clear hK0
      have d3 := p3 (hdep ⟨3, Ground.data⟩ (by simp) rfl)
      obtain rfl := d3
      clear hdep
      have k0 := Ext.keep hE' bp0; have k1 := Ext.keep hE' bp1; have k2 := Ext.keep hE' bp2; have k3 := Ext.keep hE' bp3
      go_wp2_with fail
      exact hK.out _ _ ⟨u41, u42, u43, .bool true, .bool false, by simp only [Act.put, List.setIfInBounds_toArray, List.set_cons_zero, List.set_cons_succ], by exact extX, fun h => (p0 (by simpa using h)), fun h => (p1 (by simpa using h)), fun h => (p2 (by simpa using h)), fun _ => rfl, fun _ => rfl⟩
  intro S a w2 hS hI
  obtain ⟨u41, u42, u43, u44, u45, ha, hE2, p0, p1, p2, p3, p4⟩ := hI
  simp only [Act.put, List.setIfInBounds_toArray, List.set_cons_zero, List.set_cons_succ] at ha
  subst ha
  have r2_0 := p0 (hS 0 (by decide)); clear p0
  obtain rfl := r2_0
  have r2_1 := p1 (hS 1 (by decide)); clear p1
  obtain rfl := r2_1
  have r2_2 := p2 (hS 2 (by decide)); clear p2
  have r2_3 := p3 (hS 3 (by decide)); clear p3
  obtain rfl := r2_3
  have r2_4 := p4 (hS 4 (by decide)); clear p4
  obtain rfl := r2_4
  clear hS
  have hz2 := sz_of hE2; (try simp only [World.size_alloc, World.size_setCell, World.size_drew] at hz2); obtain ⟨hc2, hf2⟩ := bcell hE2; (try have hq2_0 : w.heap.size < w2.heap.size := by omega); (try have hq2_1 : w.heap.size + 1 < w2.heap.size := by omega); (try have hq2_2 : w.heap.size + 1 + 1 < w2.heap.size := by omega); (try have hq2_3 : w.heap.size + 1 + 1 + 1 < w2.heap.size := by omega); (try have hq2_4 : w.heap.size + 1 + 1 + 1 + 1 < w2.heap.size := by omega); (try have hq2_5 : w.heap.size + 1 + 1 + 1 + 1 + 1 < w2.heap.size := by omega); (try have hx2_1 : w1.heap.size < w2.heap.size := by omega)
  go_wp2_with fail
  refine wpS_cons ?_
  simp only [lw9, bodyW, Try.f5, Option.getD_some]
  go_wp2_with fail
  refine wpS_cons ?_
  simp only [lw10, bodyW, Try.f5, Option.getD_some]
  have s2 := Ext.keep (by exact extX : Ext w1 w2) bp2
  have s3 := Ext.keep (by exact extX : Ext w1 w2) bp3
  have hs2 : w.heap.size ≤ w2.heap.size := (by exact extX : Ext w w2).size
  go_wp2_with fail
  have HF5b := Lib.hid (HF5.out.same (Same.ext (by exact extX : Ext w w2)))
  have HG5b := Lib.hid (HG5.out.ext (by exact extX : Ext w w2))
  (with_reducible refine (c_markSystem (lo := lo) (hi := hi) HF5b.out HG5b.out HN5.out (fun b o s e => by have := HD5.out b o s e; omega) (by omega) (by omega)).mono ?_)
  rintro e w3 ⟨k3, rfl, ⟨hk3, hk3'⟩, hT3⟩
  have hm5 := HG5.out.1
  have HT3 := Lib.hid hT3
  have hz3 := hT3.size
  have r0 := hT3.keep (Ext.keep (by exact extX : Ext w1 w2) bp0) (.inl hq1)
  have r1 := hT3.keep (Ext.keep (by exact extX : Ext w1 w2) bp1) (.inl hq1)
  have HR4c := Lib.hid (show RI w3 A4 n4 (oo.getD []) from by
    rcases HL4.out with h | h
    · exact ⟨HR4.out.1, fun h2 => by omega⟩
    · exact RI.turn (RI.ext HR4.out (by exact extX : Ext w w2)) hT3 (fun g o s e => .inl (h g o s e)))
  have HO7c := Lib.hid (OwI.turn (OwI.ext HO7.out (by exact extX : Ext w w2)) hT3 (fun g o s e => by have := HO7.out.bd g o s e; right; omega))
  have HHc := Lib.hid (show Hx v0 w3 from by
    have h2 : Hx v0 w2 := HH.out.trans (Hx.ext (by exact extX : Ext w w2))
    exact ⟨Nat.le_trans h2.1 hT3.size, fun k hk => (hT3.block k (Nat.lt_of_lt_of_le hk h2.1) (.inl (by omega))).trans (h2.2 k hk)⟩)
  clear hT3
  go_wp2_with fail
  refine wpS_cons ?_
  simp only [lw11, bodyW, Try.f5, Option.getD_some]
  go_wp2_with fail
  (with_reducible refine (c_eqInt64S_self (RdI.mk HO7c.out.ri) (RdI.mk HR4c.out)).mono ?_); rintro e w4 ⟨rfl, hE4⟩; have hz4 := sz_of hE4; (try simp only [World.size_alloc, World.size_setCell, World.size_drew] at hz4); obtain ⟨hc4, hf4⟩ := bcell hE4; (try have hq4_0 : w.heap.size < w4.heap.size := by omega); (try have hq4_1 : w.heap.size + 1 < w4.heap.size := by omega); (try have hq4_2 : w.heap.size + 1 + 1 < w4.heap.size := by omega); (try have hq4_3 : w.heap.size + 1 + 1 + 1 < w4.heap.size := by omega); (try have hq4_4 : w.heap.size + 1 + 1 + 1 + 1 < w4.heap.size := by omega); (try have hq4_5 : w.heap.size + 1 + 1 + 1 + 1 + 1 < w4.heap.size := by omega); (try have hx4_1 : w1.heap.size < w4.heap.size := by omega); (try have hx4_2 : w2.heap.size < w4.heap.size := by omega); (try have hx4_3 : w3.heap.size < w4.heap.size := by omega)
  go_wp2_with fail
  refine wpS_cons ?_
  simp only [lw12, bodyW, Try.f5, Option.getD_some]
  go_wp2_with fail
  refine wpS_cons ?_
  simp only [lw13, bodyW, Try.f5, Option.getD_some]
  go_wp2_with fail
  (with_reducible refine (c_markInts (OwI.ext HO7c.out hE4) (by omega) (by omega)).mono ?_)
  rintro e w5 ⟨rfl, hO5, hG5'⟩
  have HR7 := Lib.hid (OwI.ri hO5)
  have hn7 := hO5.le
  have T5 : Turn BB w4.heap.size w4 w5 := Turn.of_only hG5' fun g o s e => by have := (OwI.ext HO7c.out hE4).bd g o s e; exact this
  have hw34 := hE4.size
  have u0 := T5.keep (Ext.keep hE4 r0) (.inl (by omega))
  have u1 := T5.keep (Ext.keep hE4 r1) (.inl (by omega))
  have HR4d := Lib.hid (show RI w5 A4 n4 (oo.getD []) from by
    rcases HL4.out with h | h
    · exact ⟨HR4.out.1, fun h2 => by omega⟩
    · exact RI.turn (RI.ext HR4c.out hE4) T5 (fun g o s e => .inl (by have := h g o s e; omega)))
  have HHd := Lib.hid (show Hx v0 w5 from by
    have h2 : Hx v0 w4 := HHc.out.trans (Hx.ext hE4)
    exact ⟨Nat.le_trans h2.1 T5.size, fun k hk => (T5.block k (Nat.lt_of_lt_of_le hk h2.1) (.inl (by omega))).trans (h2.2 k hk)⟩)
  clear hO5 hG5' T5
  go_wp2_with fail
  refine wpS_cons ?_
  simp only [lw14, bodyW, Try.f5, Option.getD_some]
  go_wp2_with fail
  refine wpS_cons ?_
  simp only [lw15, bodyW, Try.f5, Option.getD_some]
  go_wp2_with fail
  (with_reducible refine (c_heldInts (k := 1) HR7.out (by omega) (by omega)).mono ?_)
  rintro e w6 ⟨rfl, rfl⟩
  have e16 : ((1 + (n7 : Int)) != (1 + (n7 : Int))) = false := by simp
  go_wp2_with fail
  refine wpS_cons ?_
  simp only [lw16, bodyW, Try.f5, Option.getD_some]
  go_wp2_with fail
  refine wpS_cons ?_
  simp only [lw17, bodyW, Try.f5, Option.getD_some]
  go_wp2_with fail
  refine wpS_nil ?_
  exact .inl ⟨rfl, rfl, HHd.out, q1, A4, n4, c4, A7, n7, c7, rfl, u0, u1, rfl, by rw [HOO.out, ← HBB.out]; rfl, by rw [HOO.out]; exact HR4d.out, rfl, HR7.out, hn7, rfl, HZ.out.1, HZ.out.2⟩
end Go.Proofs.Ytibeelcnooelkaa
namespace Go.Proofs.Ytibeelcnooelkaa
open Go.Conc
set_option linter.unusedVariables false
set_option linter.unusedSimpArgs false
section
variable {P : Program} {c : Nat} {z : Value} {ι : Type} {V : ι → Value → Nat → World → Prop} {Fin Fin' : Set_ → Goroutine → World → Prop} {Post : Value → World → Prop}
theorem mstop_mono (h : ∀ O g w, Fin O g w → Fin' O g w) : ∀ (rs : List ι) O g w, MStop P c z V Fin rs O g w → MStop P c z V Fin' rs O g w
  | [], O, g, w, k => ⟨k.1, fun w2 hr => h _ _ _ (k.2 w2 hr)⟩
  | r :: rs, O, g, w, k => ⟨k.1, fun w2 x b hr hb hV => (k.2 w2 x b hr hb hV).mono (mstop_mono h rs)⟩
theorem atgo_mono (h : ∀ O g w, Fin O g w → Fin' O g w) {O : Set_} {g : Goroutine} {w : World} (k : AtGo_ P c Fin O g w) : AtGo_ P c Fin' O g w := by
  obtain ⟨k1, g', child, ι, V, rs, z, k2, k3, k4, k5⟩ := k
  exact ⟨k1, g', child, ι, V, rs, z, k2, k3, k4.mono (mstop_mono h rs), k5⟩
theorem atmk_mono (h : ∀ O g w, Fin O g w → Fin' O g w) {O : Set_} {g : Goroutine} {w : World} (k : AtMk_ P Fin O g w) : AtMk_ P Fin' O g w := by
  obtain ⟨k1, g', k2, O', k3, k4⟩ := k
  exact ⟨k1, g', k2, O', k3, k4.mono fun _ _ _ => atgo_mono h⟩
theorem scrS_mono (O : Set_) (g : Goroutine) (w : World) (h : ScrS P Post 0 O g w) : ScrS P Post 1 O g w :=
  h.imp id (atmk_mono fun _ _ _ k => Co.mono (Stop := fun _ g w => AtEnd_ P Post g w) k fun _ _ _ => .inl)
theorem offs_scr (kk : Nat) : Offs (ScrS P Post kk) := fun O g w of h => h.imp (fun h => h) fun h => h
theorem offs_end : Offs (fun _ g w => AtEnd_ P Post g w) := fun O g w of h => h
end
end Go.Proofs.Ytibeelcnooelkaa
