/- Plain: steps by rules. -/
import Derived.Test.YtoopopgbbkmcpaaMSub
namespace Go.Proofs.Ytoopopgbbkmcpaa
set_option linter.unusedVariables false

/-- One step. -/
structure Stp where
  at_ : Int
  rule : Int
  to : List Int
def StepP (s : Sy) (t : List Int) (q : Stp) : Prop := ∃ (k p : Nat) (r : Ru) (σ : List (List Int)), q.rule = k ∧ q.at_ = p ∧ s.rs[k]? = some r ∧ p < t.length ∧ SubP s.ar σ ∧ fill (gives σ) r.l = (subT s.ar t p).flat ∧
  q.to = t.take p ++ fill (gives σ) r.r ++ t.drop (p + (subT s.ar t p).flat.length) ∧ q.to.length ≤ 60
/-- .. of trees. -/
def RuT (s : Sy) (k : Nat) (r : Ru) (u v : Tm) : Prop := ∃ g : Int → Tm, (∀ x, x < 0 → (g x).Ok s.ar) ∧ s.rs[k]? = some r ∧ u = (tmOf s.ar r.l).sub g ∧ v = (tmOf s.ar r.r).sub g
theorem fill_ge {ar : List Int} {σ : List (List Int)} {t : List Int} (hσ : SubP ar σ) (ht : ∀ x ∈ t, -24 ≤ x) : ∀ z ∈ fill (gives σ) t, -24 ≤ z := by
  intro z hz
  unfold fill at hz
  obtain ⟨q, hq1, hq2⟩ := List.mem_flatMap.1 hz
  have hq := ht q hq1
  by_cases h0 : q < 0
  · rw [if_pos h0] at hq2
    rcases hσ.at_ (-1 - q).toNat with h1 | h1
    · rw [gives_no h1, List.mem_singleton] at hq2; subst hq2; exact hq
    · rw [gives_yes rfl (fun e => by rw [e] at h1; exact absurd h1.2.1.1 (by simp))] at hq2
      exact h1.2.2.1 z hq2
  · rw [if_neg h0, List.mem_singleton] at hq2; omega
theorem stepP_tree {s : Sy} {t : List Int} {q : Stp} (hs : SysP s) (ht : TermP s.ar t) (h : StepP s t q) :
    ∃ (k p : Nat) (r : Ru) (T' : Tm), q.rule = k ∧ q.at_ = p ∧ s.rs[k]? = some r ∧ p < t.length ∧ At (RuT s k r) p (tmOf s.ar t) T' ∧ T'.Ok s.ar ∧ T'.flat = q.to ∧ TermP s.ar q.to := by
  obtain ⟨k, p, r, σ, e1, e2, hr, hp, hσ, hl, hto, h60⟩ := h
  obtain ⟨o1, f1⟩ := tmOf_ok ht
  obtain ⟨hL, hR, _⟩ := hs.2.2 k r hr
  obtain ⟨oL, fL⟩ := tmOf_ok hL
  obtain ⟨oR, fR⟩ := tmOf_ok hR
  obtain ⟨oL2, fL2⟩ := fill_tree hσ oL
  obtain ⟨oR2, fR2⟩ := fill_tree hσ oR
  obtain ⟨oS, rest, hd⟩ := subT_ok ht hp
  rw [fL] at fL2
  rw [fR] at fR2
  have hsub : subT s.ar t p = (tmOf s.ar r.l).sub (givT s.ar σ) := flat_inj' oS oL2 (by rw [fL2, hl])
  rw [hsub] at hd hto
  obtain ⟨T', hA, hf⟩ := at_put (b := (tmOf s.ar r.r).sub (givT s.ar σ)) oL2 (tmOf s.ar t) o1 p rest (by rw [f1]; exact hp) (by rw [f1]; exact hd)
  have hrest : t.drop (p + ((tmOf s.ar r.l).sub (givT s.ar σ)).flat.length) = rest := by
    rw [← List.drop_drop, hd]; simp
  have hf' : T'.flat = q.to := by rw [hf, hto, f1, fR2, hrest]
  have hoT : T'.Ok s.ar := At.ok (fun u v h => by rw [h.2]; exact oR2) hA o1
  refine ⟨k, p, r, T', e1, e2, hr, hp, hA.imp (fun u v h => ⟨givT s.ar σ, fun x hx => (givT_ok hσ hx).1, hr, h.1, h.2⟩), hoT, hf', ?_⟩
  rw [← hf']
  refine termP_flat ht.1 hoT (by rw [hf']; exact h60) ?_
  rw [hf', hto]
  intro x hx
  rcases List.mem_append.1 hx with hx | hx
  · rcases List.mem_append.1 hx with hx | hx
    · exact ht.2.2.1 x (List.mem_of_mem_take hx)
    · exact fill_ge hσ hR.2.2.1 x hx
  · exact ht.2.2.1 x (List.mem_of_mem_drop hx)
/-- The end of a part of a right term, by the reference. -/
theorem endS_sub {ar t rest : List Int} {p : Nat} {u : Tm} (ht : ∀ x ∈ t, -24 ≤ x) (hu : u.Ok ar) (hd : t.drop p = u.flat ++ rest) : endS ar t p = ((p + u.flat.length : Nat) : Int) := by
  have h1 : scan (arI ar) (t.drop p) 1 = some u.flat.length := by
    rw [hd, show (1 : Nat) = 0 + 1 from rfl, scan_flat u hu, scan_zero]; simp
  have h2 : scan (arS ar) (t.drop p) 1 = some u.flat.length := scan_SI.2 ⟨h1, fun x hx => ht x (List.mem_of_mem_drop (List.mem_of_mem_take hx))⟩
  unfold endS endF
  rw [h2]
/-- A part of a right term is right. -/
theorem sub_term {ar t : List Int} {k : Nat} (ht : TermP ar t) (hk : k < t.length) : TermP ar (subT ar t k).flat ∧ k + (subT ar t k).flat.length ≤ t.length ∧ ∃ rest, t.drop k = (subT ar t k).flat ++ rest := by
  obtain ⟨h1, rest, h2⟩ := subT_ok ht hk
  have hl := congrArg List.length h2
  rw [List.length_drop, List.length_append] at hl
  have hp := flat_pos (subT ar t k)
  have h60 := ht.2.1.2
  exact ⟨termP_flat ht.1 h1 (by omega) (fun x hx => ht.2.2.1 x (List.mem_of_mem_drop (by rw [h2]; exact List.mem_append_left _ hx))), by omega, rest, h2⟩
/-- What has been matched so far: of p the first i, of t the first k. -/
structure MtP (ar p t : List Int) (τ : List (List Int)) (i k : Nat) : Prop where
  tl : τ.length = 24
  ok : ∀ j, τ.getD j [] = [] ∨ TermP ar (τ.getD j [])
  fl : fill (gives τ) (p.take i) = t.take k
  as_ : ∀ x ∈ p.take i, x < 0 → τ.getD (-1 - x).toNat [] ≠ []
  ik : k ≤ t.length
  on : ∀ j : Nat, τ.getD j [] ≠ [] → (-1 - (j : Int)) ∈ p.take i
theorem MtP.start (ar p t : List Int) : MtP ar p t (List.replicate 24 []) 0 0 :=
  ⟨by simp, fun j => .inl (by rw [List.getD_eq_getElem?_getD, List.getElem?_replicate]; split <;> rfl), by simp [fill_nil], fun x hx => by simp at hx, Nat.zero_le _, fun j h => absurd (by rw [List.getD_eq_getElem?_getD, List.getElem?_replicate]; split <;> rfl) h⟩
theorem MtP.sym {ar p t : List Int} {τ : List (List Int)} {i k : Nat} {x : Int} (h : MtP ar p t τ i k) (hx : p[i]? = some x) (h0 : ¬ x < 0) (ht : t[k]? = some x) : MtP ar p t τ (i + 1) (k + 1) := by
  refine ⟨h.tl, h.ok, ?_, fun y hy hy0 => ?_, (List.getElem?_eq_some_iff.1 ht).1, fun j hj => by rw [take_snoc hx]; exact List.mem_append_left _ (h.on j hj)⟩
  · rw [take_snoc hx, take_snoc ht, fill_append, fill_cons, if_neg h0, fill_nil, h.fl]; rfl
  · rw [take_snoc hx] at hy
    rcases List.mem_append.1 hy with hy | hy
    · exact h.as_ y hy hy0
    · rw [List.mem_singleton] at hy; subst hy; exact absurd hy0 h0
theorem getD_set {τ : List (List Int)} {v j : Nat} {u : List Int} (hv : v < τ.length) : (τ.set v u).getD j [] = if v = j then u else τ.getD j [] := by
  rw [List.getD_eq_getElem?_getD, List.getD_eq_getElem?_getD, List.getElem?_set]
  by_cases e : v = j
  · subst e; rw [if_pos rfl, if_pos hv, if_pos rfl]; rfl
  · rw [if_neg e, if_neg e]
theorem MtP.var {ar p t : List Int} {τ : List (List Int)} {i k : Nat} {x : Int} (h : MtP ar p t τ i k) (hx : p[i]? = some x) (h0 : x < 0) (h24 : -24 ≤ x) (hu : TermP ar (subT ar t k).flat) (hd : ∃ rest, t.drop k = (subT ar t k).flat ++ rest)
    (ho : τ.getD (-1 - x).toNat [] = [] ∨ τ.getD (-1 - x).toNat [] = (subT ar t k).flat) : MtP ar p t (τ.set (-1 - x).toNat (subT ar t k).flat) (i + 1) (k + (subT ar t k).flat.length) := by
  have hv : (-1 - x).toNat < τ.length := by rw [h.tl]; omega
  have hne : (subT ar t k).flat ≠ [] := fun e => by have := hu.2.1.1; rw [e] at this; simp at this
  have hsame : ∀ y ∈ p.take i, y < 0 → gives (τ.set (-1 - x).toNat (subT ar t k).flat) y = gives τ y := fun y hy hy0 => by
    unfold gives
    rw [getD_set hv]
    by_cases e : (-1 - x).toNat = (-1 - y).toNat
    · rw [if_pos e]
      have hey : y = x := by omega
      subst hey
      have := (ho.resolve_left (h.as_ y hy hy0))
      rw [this]
    · rw [if_neg e]
  obtain ⟨rest, hd⟩ := hd
  have hklen : k + (subT ar t k).flat.length ≤ t.length := by
    have := congrArg List.length hd
    rw [List.length_drop, List.length_append] at this
    have := flat_pos (subT ar t k)
    omega
  refine ⟨by rw [List.length_set, h.tl], fun j => ?_, ?_, fun y hy hy0 => ?_, hklen, fun j hj => ?_⟩
  · rw [getD_set hv]
    by_cases e : (-1 - x).toNat = j
    · rw [if_pos e]; exact .inr hu
    · rw [if_neg e]; exact h.ok j
  · rw [take_snoc hx, fill_append, fill_congr hsame, h.fl, fill_cons, if_pos h0, fill_nil, List.append_nil]
    rw [gives_yes (t := (subT ar t k).flat) (by rw [getD_set hv, if_pos rfl]) hne]
    rw [List.take_add, hd]; simp
  · rw [getD_set hv]
    by_cases e : (-1 - x).toNat = (-1 - y).toNat
    · rw [if_pos e]; exact hne
    · rw [if_neg e]
      rw [take_snoc hx] at hy
      rcases List.mem_append.1 hy with hy | hy
      · exact h.as_ y hy hy0
      · rw [List.mem_singleton] at hy; subst hy; exact absurd rfl e
  · rw [take_snoc hx]
    rw [getD_set hv] at hj
    by_cases e : (-1 - x).toNat = j
    · refine List.mem_append_right _ (List.mem_singleton.2 ?_)
      omega
    · rw [if_neg e] at hj
      exact List.mem_append_left _ (h.on j hj)
theorem MtP.sub {ar p t : List Int} {τ : List (List Int)} {i k : Nat} (h : MtP ar p t τ i k) : SubP ar τ := ⟨by rw [h.tl]; exact Nat.le_refl _, fun u hu h0 => by
  obtain ⟨j, hj, e⟩ := List.mem_iff_getElem.1 hu
  have := h.ok j
  rw [List.getD_eq_getElem?_getD, List.getElem?_eq_getElem hj, e] at this
  exact this.resolve_left h0⟩
theorem MtP.done {ar p t : List Int} {τ : List (List Int)} {i k : Nat} (h : MtP ar p t τ i k) (hp : TermP ar p) (ht : TermP ar t) (hi : p.length ≤ i) : fill (gives τ) p = t := by
  have h1 := h.fl
  rw [List.take_of_length_le hi] at h1
  obtain ⟨o1, f1⟩ := tmOf_ok hp
  obtain ⟨o2, f2⟩ := tmOf_ok ht
  obtain ⟨o3, f3⟩ := fill_tree h.sub o1
  rw [f1] at f3
  have h2 : ((tmOf ar p).sub (givT ar τ)).flat ++ t.drop k = (tmOf ar t).flat ++ [] := by
    rw [f3, h1, f2, List.take_append_drop, List.append_nil]
  obtain ⟨_, e⟩ := flat_inj _ _ o3 o2 _ _ h2
  rw [h1, ← List.append_nil (t.take k), ← e, List.take_append_drop]
theorem subT_eqS {ar t rest : List Int} {p : Nat} {u : Tm} (h : TermP ar t) (hu : u.Ok ar) (hd : t.drop p = u.flat ++ rest) : subT ar t p = u := by
  have hp : p < t.length := by
    have h1 := congrArg List.length hd
    have h2 := flat_pos u
    rw [List.length_drop, List.length_append] at h1
    omega
  obtain ⟨h1, rest', h2⟩ := subT_ok h hp
  exact (flat_inj _ _ h1 hu _ _ (by rw [← h2, hd])).1
/-- An instance. -/
def InstP (ar p t : List Int) : Prop := ∃ g : Int → List Int, (∀ x ∈ p, x < 0 → ∃ u : Tm, u.Ok ar ∧ g x = u.flat) ∧ fill g p = t
theorem fill_pre {ar : List Int} {h g : Int → List Int} : ∀ {q r1 r2 : List Int}, (∀ x ∈ q, x < 0 → ∃ u : Tm, u.Ok ar ∧ h x = u.flat) → (∀ x ∈ q, x < 0 → ∃ u : Tm, u.Ok ar ∧ g x = u.flat) → fill h q ++ r1 = fill g q ++ r2 →
    fill h q = fill g q ∧ r1 = r2 ∧ ∀ x ∈ q, x < 0 → h x = g x
  | [], r1, r2, _, _, he => ⟨rfl, by simpa [fill_nil] using he, fun x hx => by cases hx⟩
  | x :: q, r1, r2, hh, hg, he => by
    rw [fill_cons, fill_cons, List.append_assoc, List.append_assoc] at he
    by_cases hx : x < 0
    · rw [if_pos hx, if_pos hx] at he
      obtain ⟨u, ou, eu⟩ := hh x (List.mem_cons_self ..) hx
      obtain ⟨v, ov, ev⟩ := hg x (List.mem_cons_self ..) hx
      rw [eu, ev] at he
      obtain ⟨e1, e2⟩ := flat_inj u v ou ov _ _ he
      obtain ⟨h1, h2, h3⟩ := fill_pre (fun y hy => hh y (List.mem_cons_of_mem _ hy)) (fun y hy => hg y (List.mem_cons_of_mem _ hy)) e2
      have hxx : h x = g x := by rw [eu, ev, e1]
      refine ⟨by rw [fill_cons, fill_cons, if_pos hx, if_pos hx, hxx, h1], h2, fun y hy hy0 => ?_⟩
      rcases List.mem_cons.1 hy with rfl | hy
      · exact hxx
      · exact h3 y hy hy0
    · rw [if_neg hx, if_neg hx] at he
      obtain ⟨h1, h2, h3⟩ := fill_pre (fun y hy => hh y (List.mem_cons_of_mem _ hy)) (fun y hy => hg y (List.mem_cons_of_mem _ hy)) (List.append_cancel_left he)
      refine ⟨by rw [fill_cons, fill_cons, if_neg hx, if_neg hx, h1], h2, fun y hy hy0 => ?_⟩
      rcases List.mem_cons.1 hy with rfl | hy
      · exact absurd hy0 hx
      · exact h3 y hy hy0
theorem MtP.inst {ar p t : List Int} {τ : List (List Int)} {i k : Nat} {g : Int → List Int} (h : MtP ar p t τ i k) (hg : ∀ x ∈ p, x < 0 → ∃ u : Tm, u.Ok ar ∧ g x = u.flat) (hf : fill g p = t) :
    fill g (p.drop i) = t.drop k ∧ ∀ x ∈ p.take i, x < 0 → gives τ x = g x := by
  have h1 : fill (gives τ) (p.take i) ++ t.drop k = fill g (p.take i) ++ fill g (p.drop i) := by
    rw [h.fl, List.take_append_drop, ← fill_append, List.take_append_drop, hf]
  obtain ⟨_, h2, h3⟩ := fill_pre (ar := ar) (fun x hx hx0 => by
    have hne := h.as_ x hx hx0
    have ht := (h.ok (-1 - x).toNat).resolve_left hne
    rw [gives_yes rfl hne]
    exact ⟨_, (tmOf_ok ht).1, (tmOf_ok ht).2.symm⟩) (fun x hx => hg x (List.mem_of_mem_take hx)) h1
  exact ⟨h2.symm, h3⟩
theorem MtP.no_short {ar p t : List Int} {τ : List (List Int)} {i k : Nat} {x : Int} (h : MtP ar p t τ i k) (hx : p[i]? = some x) (hk : t.length ≤ k) : ¬ InstP ar p t := by
  rintro ⟨g, hg, hf⟩
  obtain ⟨h1, _⟩ := h.inst hg hf
  have hi := (List.getElem?_eq_some_iff.1 hx).1
  rw [List.drop_eq_getElem_cons hi, fill_cons, List.drop_of_length_le hk] at h1
  have h2 := (List.append_eq_nil_iff.1 h1).1
  split at h2
  · rename_i h0
    obtain ⟨u, _, e⟩ := hg _ (List.getElem_mem hi) h0
    rw [e] at h2
    have := flat_pos u
    rw [h2] at this
    simp at this
  · cases h2
theorem MtP.no_sym {ar p t : List Int} {τ : List (List Int)} {i k : Nat} {x y : Int} (h : MtP ar p t τ i k) (hx : p[i]? = some x) (h0 : ¬ x < 0) (hy : t[k]? = some y) (hn : x ≠ y) : ¬ InstP ar p t := by
  rintro ⟨g, hg, hf⟩
  obtain ⟨h1, _⟩ := h.inst hg hf
  obtain ⟨hi, ex⟩ := List.getElem?_eq_some_iff.1 hx
  obtain ⟨hk, ey⟩ := List.getElem?_eq_some_iff.1 hy
  rw [List.drop_eq_getElem_cons hi, fill_cons, ex, if_neg h0, List.drop_eq_getElem_cons hk, ey] at h1
  exact hn (by simpa using (List.cons_eq_cons.1 h1).1)
theorem MtP.no_var {ar p t : List Int} {τ : List (List Int)} {i k : Nat} {x : Int} (h : MtP ar p t τ i k) (ht : TermP ar t) (hx : p[i]? = some x) (h0 : x < 0) (ho : τ.getD (-1 - x).toNat [] ≠ []) (hn : (τ.getD (-1 - x).toNat [] == (subT ar t k).flat) = false) : ¬ InstP ar p t := by
  rintro ⟨g, hg, hf⟩
  obtain ⟨h1, h2⟩ := h.inst hg hf
  obtain ⟨hi, ex⟩ := List.getElem?_eq_some_iff.1 hx
  have hin := h.on _ ho
  rw [show -1 - (((-1 - x).toNat : Nat) : Int) = x by omega] at hin
  have h3 := h2 x hin h0
  rw [gives_yes rfl ho] at h3
  obtain ⟨u, ou, eu⟩ := hg x (List.mem_of_mem_take hin) h0
  rw [List.drop_eq_getElem_cons hi, fill_cons, ex, if_pos h0, eu] at h1
  rw [subT_eqS ht ou h1.symm, h3, eu] at hn
  simp at hn
/-- The plain one. -/
def plainAt (τ : List (List Int)) (j : Nat) : List Int := if gives τ (-1 - (j : Int)) = [-1 - (j : Int)] then [] else gives τ (-1 - (j : Int))
def plainL (τ : List (List Int)) (n : Nat) : List (List Int) := (List.range n).map (plainAt τ)
theorem plainL_succ (τ : List (List Int)) (n : Nat) : plainL τ (n + 1) = plainL τ n ++ [plainAt τ n] := by unfold plainL; rw [List.range_succ, List.map_append]; rfl
theorem plainL_len (τ : List (List Int)) (n : Nat) : (plainL τ n).length = n := by simp [plainL]
/-- Without the last ones, where they are empty. -/
structure PlP (τ σ : List (List Int)) (n : Nat) : Prop where
  eq : σ = (plainL τ n).take σ.length
  le : σ.length ≤ n
  em : ∀ j, σ.length ≤ j → j < n → plainAt τ j = []
theorem PlP.start (τ : List (List Int)) (n : Nat) : PlP τ (plainL τ n) n := ⟨by rw [List.take_of_length_le (Nat.le_refl _)], by rw [plainL_len]; exact Nat.le_refl _, fun j h1 h2 => by rw [plainL_len] at h1; omega⟩
theorem PlP.last {τ σ : List (List Int)} {n j : Nat} (h : PlP τ σ n) (hj : j < σ.length) : σ[j]? = some (plainAt τ j) := by
  rw [h.eq, List.getElem?_take, if_pos hj]
  have := h.le
  unfold plainL
  rw [List.getElem?_map, List.getElem?_range (by omega)]; rfl
theorem PlP.cut {τ σ : List (List Int)} {n m : Nat} (h : PlP τ σ n) (hm : σ.length = m + 1) (he : plainAt τ m = []) : PlP τ (σ.take m) n := by
  have hl : (σ.take m).length = m := by simp; omega
  refine ⟨?_, by have := h.le; omega, fun j h1 h2 => ?_⟩
  · rw [hl]
    have := h.eq
    rw [hm] at this
    rw [this, List.take_take, Nat.min_eq_left (by omega)]
  · rw [hl] at h1
    rcases Nat.eq_or_lt_of_le h1 with e | e
    · rw [← e]; exact he
    · exact h.em j (by omega) h2
theorem PlP.gives {τ σ : List (List Int)} {n : Nat} (h : PlP τ σ n) (hn : τ.length ≤ n) {x : Int} (hx : x < 0) : gives σ x = gives τ x := by
  obtain ⟨j, hj⟩ := Int.eq_ofNat_of_zero_le (show 0 ≤ -1 - x by omega)
  obtain rfl : x = -1 - (j : Int) := by omega
  have ej : (-1 - (-1 - (j : Int))).toNat = j := by omega
  by_cases h1 : j < σ.length
  · have h2 := h.last h1
    have h3 : σ.getD j [] = plainAt τ j := by rw [List.getD_eq_getElem?_getD, h2]; rfl
    by_cases h4 : Go.Proofs.Ytoopopgbbkmcpaa.gives τ (-1 - (j : Int)) = [-1 - (j : Int)]
    · rw [h4]; refine gives_no ?_
      rw [ej, h3]; unfold plainAt; rw [if_pos h4]
    · have h5 : plainAt τ j = Go.Proofs.Ytoopopgbbkmcpaa.gives τ (-1 - (j : Int)) := by unfold plainAt; rw [if_neg h4]
      refine gives_yes (by rw [ej, h3, h5]) ?_
      intro e
      unfold Go.Proofs.Ytoopopgbbkmcpaa.gives at e
      split at e
      · cases e
      · exact absurd e (by assumption)
  · have h3 : σ.getD j [] = [] := by rw [List.getD_eq_getElem?_getD, List.getElem?_eq_none (by omega)]; rfl
    rw [gives_no (by rw [ej]; exact h3)]
    by_cases h6 : j < n
    · have h4 := h.em j (by omega) h6
      unfold plainAt at h4
      split at h4
      · rw [‹Go.Proofs.Ytoopopgbbkmcpaa.gives τ (-1 - (j : Int)) = _›]
      · exfalso
        unfold Go.Proofs.Ytoopopgbbkmcpaa.gives at h4
        split at h4
        · cases h4
        · exact absurd h4 (by assumption)
    · rw [gives_no (by rw [ej, List.getD_eq_getElem?_getD, List.getElem?_eq_none (by omega)]; rfl)]
theorem PlP.sub {ar : List Int} {τ σ : List (List Int)} {n : Nat} (h : PlP τ σ n) (hτ : SubP ar τ) (hn : n ≤ 24) : SubP ar σ := by
  refine ⟨by have := h.le; omega, fun u hu h0 => ?_⟩
  obtain ⟨j, hj, e⟩ := List.mem_iff_getElem.1 hu
  have h1 := h.last hj
  rw [List.getElem?_eq_getElem hj, e] at h1
  have h2 := Option.some.inj h1
  unfold plainAt at h2
  split at h2
  · exact absurd h2 h0
  · rw [h2]
    rename_i h3
    rcases hτ.at_ (-1 - (-1 - (j : Int))).toNat with h4 | h4
    · exact absurd (gives_no h4) h3
    · rw [gives_yes rfl (fun e => by rw [e] at h4; exact absurd h4.2.1.1 (by simp))]; exact h4
end Go.Proofs.Ytoopopgbbkmcpaa
