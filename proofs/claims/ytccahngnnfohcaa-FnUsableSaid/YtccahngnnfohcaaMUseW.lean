/- Plain: no step below the head needs a rule that is not usable. -/
import Derived.Test.YtccahngnnfohcaaMUse
import Derived.Test.YtccahngnnfohcaaMStep
namespace Go.Proofs.Ytccahngnnfohcaa
set_option linter.unusedVariables false

/-- The rules of a head are all marked. -/
def Cov (rs : List Ru) (us : List Bool) (x : Int) : Prop := ∀ (k : Nat) (r : Ru), rs[k]? = some r → r.l[0]? = some x → us[k]? = some true
def Mono (us us' : List Bool) : Prop := us'.length = us.length ∧ ∀ k : Nat, us[k]? = some true → us'[k]? = some true
theorem Mono.refl (us : List Bool) : Mono us us := ⟨rfl, fun _ h => h⟩
theorem Mono.trans {a b c : List Bool} (h : Mono a b) (k : Mono b c) : Mono a c := ⟨k.1.trans h.1, fun j e => k.2 j (h.2 j e)⟩
theorem Mono.set (us : List Bool) (k : Nat) : Mono us (us.set k true) := by
  refine ⟨by simp, fun j h => ?_⟩
  rw [List.getElem?_set]
  have hj := (List.getElem?_eq_some_iff.1 h).1
  split
  · rename_i e; subst e; rw [if_pos hj]
  · exact h
theorem Cov.mono {rs : List Ru} {us us' : List Bool} {x : Int} (h : Cov rs us x) (k : Mono us us') : Cov rs us' x := fun j r hr e => k.2 j (h j r hr e)
/-- What is marked or waits. -/
structure Wai (rs : List Ru) (T : List Int) (us : List Bool) (td : List Int) : Prop where
  len : us.length = rs.length
  st : ∀ x ∈ T, Cov rs us x ∨ x ∈ td
  ru : ∀ (k : Nat) (r : Ru), rs[k]? = some r → us[k]? = some true → ∀ x ∈ r.r, Cov rs us x ∨ x ∈ td
theorem useRow_all (rs : List Ru) (n : Int) (us : List Bool) (td : List Int) (hl : us.length = rs.length) : ∀ k, k ≤ rs.length →
    Mono us (useRow rs n k (us, td)).1 ∧ (∀ x ∈ td, x ∈ (useRow rs n k (us, td)).2) ∧
    (∀ (j : Nat) (r : Ru), j < k → rs[j]? = some r → r.l[0]? = some n → (useRow rs n k (us, td)).1[j]? = some true) ∧
    (∀ (j : Nat) (r : Ru), rs[j]? = some r → (useRow rs n k (us, td)).1[j]? = some true → us[j]? = some true ∨ ∀ x ∈ r.r, x ∈ (useRow rs n k (us, td)).2)
  | 0, _ => ⟨Mono.refl _, fun x h => h, fun j r h => by omega, fun j r _ h => .inl h⟩
  | k + 1, hk => by
    obtain ⟨h1, h2, h3, h4⟩ := useRow_all rs n us td hl k (by omega)
    have hr : rs[k]? = some rs[k] := List.getElem?_eq_getElem (by omega)
    generalize hs : useRow rs n k (us, td) = st at *
    obtain ⟨a, b⟩ := st
    simp only at h1 h2 h3 h4
    have hal : a.length = rs.length := h1.1.trans hl
    by_cases h : rs[k].l[0]? = some n ∧ a[k]? = some false
    · rw [useRow_hit hr hs h.1 h.2]
      refine ⟨h1.trans (Mono.set a k), fun x hx => List.mem_append_left _ (h2 x hx), fun j r hj he hn => ?_, fun j r he ht => ?_⟩
      · rcases Nat.lt_or_ge j k with h' | h'
        · exact (Mono.set a k).2 j (h3 j r h' he hn)
        · obtain rfl : j = k := by omega
          simp only
          rw [List.getElem?_set, if_pos rfl, if_pos (by omega)]
      · simp only at ht ⊢
        by_cases e : j = k
        · subst e
          rw [hr] at he
          cases he
          exact .inr fun x hx => List.mem_append_right _ hx
        · rw [List.getElem?_set, if_neg (fun a => e a.symm)] at ht
          rcases h4 j r he ht with h' | h'
          · exact .inl h'
          · exact .inr fun x hx => List.mem_append_left _ (h' x hx)
    · rw [useRow_miss hr hs h]
      refine ⟨h1, h2, fun j r hj he hn => ?_, h4⟩
      rcases Nat.lt_or_ge j k with h' | h'
      · exact h3 j r h' he hn
      · obtain rfl : j = k := by omega
        rw [hr] at he
        cases he
        have hj2 : a[j]? = some a[j] := List.getElem?_eq_getElem (by omega)
        simp only
        cases hb : a[j] with
        | true => rw [hj2, hb]
        | false => exact absurd ⟨hn, by rw [hj2, hb]⟩ h
theorem Wai.next {rs : List Ru} {T : List Int} {us : List Bool} {n : Int} {td : List Int} (h : Wai rs T us (n :: td)) : Wai rs T (useRow rs n rs.length (us, td)).1 (useRow rs n rs.length (us, td)).2 := by
  obtain ⟨h1, h2, h3, h4⟩ := useRow_all rs n us td h.len rs.length (Nat.le_refl _)
  have hc : Cov rs (useRow rs n rs.length (us, td)).1 n := fun k r hr e => h3 k r (List.getElem?_eq_some_iff.1 hr).1 hr e
  have hgo : ∀ x, (Cov rs us x ∨ x ∈ n :: td) → Cov rs (useRow rs n rs.length (us, td)).1 x ∨ x ∈ (useRow rs n rs.length (us, td)).2 := fun x hx => by
    rcases hx with hx | hx
    · exact .inl (hx.mono h1)
    · rcases List.mem_cons.1 hx with rfl | hx
      · exact .inl hc
      · exact .inr (h2 x hx)
  refine ⟨h1.1.trans h.len, fun x hx => hgo x (h.st x hx), fun k r hr ht x hx => ?_⟩
  rcases h4 k r hr ht with h' | h'
  · exact hgo x (h.ru k r hr h' x hx)
  · exact .inr (h' x hx)
theorem Wai.go {rs : List Ru} {T : List Int} : ∀ (f : Nat) {us : List Bool} {td : List Int}, Wai rs T us td → f = td.length + useNeed rs us → Wai rs T (useGo rs f us td) []
  | 0, us, td, h, hf => by
    have : td = [] := by rw [← List.length_eq_zero_iff]; omega
    subst this
    exact h
  | f + 1, us, [], h, hf => h
  | f + 1, us, n :: td, h, hf => by
    show Wai rs T (useGo rs f (useRow rs n rs.length (us, td)).1 (useRow rs n rs.length (us, td)).2) []
    have hb := useRow_bd rs n rs.length (us, td)
    refine Wai.go f h.next ?_
    have := hb.1
    simp only [List.length_cons] at hf this
    omega
/-- All that the rest of a term can come to. -/
def Use (s : Sy) (U : List Int) (t : List Int) : Prop := (∀ x ∈ t.drop 1, ∀ (k : Nat) (r : Ru), s.rs[k]? = some r → r.l[0]? = some x → (k : Int) ∈ U) ∧
  ∀ (k : Nat) (r : Ru), s.rs[k]? = some r → (k : Int) ∈ U → ∀ x ∈ r.r, ∀ (j : Nat) (p : Ru), s.rs[j]? = some p → p.l[0]? = some x → (j : Int) ∈ U
theorem use_start {s : Sy} {t : List Int} (hs : SysP s) (ht : TermP s.ar t) : Use s (useV s t) t := by
  rw [useV_ok (sysOk_iff.2 hs) (termOk_iff.2 ht)]
  have h := Wai.go (rs := s.rs) (T := t.drop 1) ((t.drop 1).length + useNeed s.rs (List.replicate s.rs.length false)) (us := List.replicate s.rs.length false) (td := t.drop 1)
    ⟨by simp, fun x hx => .inr hx, fun k r hr ht x hx => by rw [List.getElem?_replicate] at ht; split at ht <;> cases ht⟩ rfl
  have hm : ∀ k : Nat, (useAll s t)[k]? = some true → (k : Int) ∈ useOut (useAll s t) s.rs.length := fun k e => useOut_mem.2 ⟨k, rfl, by rw [← h.len]; exact (List.getElem?_eq_some_iff.1 e).1, e⟩
  have hm2 : ∀ k : Nat, (k : Int) ∈ useOut (useAll s t) s.rs.length → (useAll s t)[k]? = some true := fun k e => by
    obtain ⟨j, e1, _, e2⟩ := useOut_mem.1 e
    obtain rfl : k = j := by omega
    exact e2
  refine ⟨fun x hx k r hr e => ?_, fun k r hr hk x hx j p hp e => ?_⟩
  · rcases h.st x hx with h' | h'
    · exact hm k (h' k r hr e)
    · cases h'
  · rcases h.ru k r hr (hm2 k hk) x hx with h' | h'
    · exact hm j (h' j p hp e)
    · cases h'
theorem use_step {s : Sy} {U t : List Int} {q : Stp} (hs : SysP s) (ht : TermP s.ar t) (h : Use s U t) (hq : StepP s t q) (h0 : q.at_ ≠ 0) : q.rule ∈ U ∧ Use s U q.to := by
  obtain ⟨k, p, r, σ, e1, e2, hr, hp, hσ, hl, hto, h60⟩ := hq
  have hp0 : 1 ≤ p := by omega
  obtain ⟨hL, hR, hhd, hv⟩ := hs.2.2 k r hr
  obtain ⟨_, _, rest, hd⟩ := sub_term ht hp
  rw [← hl] at hd
  have hin : ∀ z ∈ fill (gives σ) r.l, z ∈ t.drop 1 := fun z hz => by
    have h1 : z ∈ t.drop p := by rw [hd]; exact List.mem_append_left _ hz
    have h2 : t.drop p = (t.drop 1).drop (p - 1) := by rw [List.drop_drop]; congr 1; omega
    rw [h2] at h1
    exact List.mem_of_mem_drop h1
  have hlen : r.l ≠ [] := fun e => by have := hL.2.1.1; rw [e] at this; simp at this
  obtain ⟨x, l', hx⟩ : ∃ x l', r.l = x :: l' := by
    cases hl' : r.l with
    | nil => exact absurd hl' hlen
    | cons x l' => exact ⟨x, l', rfl⟩
  have hx0 : 0 ≤ x := hhd x (by rw [hx]; rfl)
  have hk : (k : Int) ∈ U := h.1 x (hin x (by rw [hx, fill_cons, if_neg (by omega)]; simp)) k r hr (by rw [hx]; rfl)
  refine ⟨by rw [e1]; exact hk, fun z hz j w hw ew => ?_, h.2⟩
  have hz2 : z ∈ t.drop 1 ∨ z ∈ fill (gives σ) r.r := by
    rw [hto, List.append_assoc, List.drop_append] at hz
    rcases List.mem_append.1 hz with hz | hz
    · rw [List.drop_take] at hz; exact .inl (List.mem_of_mem_take hz)
    · have hz := List.mem_of_mem_drop hz
      rcases List.mem_append.1 hz with hz | hz
      · exact .inr hz
      · left
        rw [show p + (subT s.ar t p).flat.length = 1 + (p - 1 + (subT s.ar t p).flat.length) by omega, ← List.drop_drop] at hz
        exact List.mem_of_mem_drop hz
  rcases hz2 with hz2 | hz2
  · exact h.1 z hz2 j w hw ew
  · unfold fill at hz2
    obtain ⟨y, hy1, hy2⟩ := List.mem_flatMap.1 hz2
    by_cases hy : y < 0
    · rw [if_pos hy] at hy2
      refine h.1 z (hin z ?_) j w hw ew
      unfold fill
      exact List.mem_flatMap.2 ⟨y, hv y hy1 hy, by rw [if_pos hy]; exact hy2⟩
    · rw [if_neg hy, List.mem_singleton] at hy2
      subst hy2
      exact h.2 k r hr hk z hy1 j w hw ew

end Go.Proofs.Ytccahngnnfohcaa
