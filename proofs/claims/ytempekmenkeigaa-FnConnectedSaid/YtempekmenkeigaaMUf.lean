/- Plain: unification by the reference's way of substitutions; what can be made one is connected. -/
import Derived.Test.YtempekmenkeigaaUnA
import Derived.Test.YtempekmenkeigaaMgA
namespace Go.Proofs.Ytempekmenkeigaa
set_option linter.unusedVariables false
set_option linter.unusedSimpArgs false

/-- What is given bears no variable that has something. -/
def Idm (τ : List (List Int)) : Prop := ∀ y, y < 0 → ∀ z ∈ gives τ y, z < 0 → gives τ z = [z]
theorem gives_ne (τ : List (List Int)) (x : Int) : gives τ x ≠ [] := by
  unfold gives
  split
  · simp
  · assumption
theorem gives_nil (x : Int) : gives [] x = [x] := gives_no rfl
theorem Idm.start : Idm [] := fun y _ z hz _ => gives_nil z
def oneS (i : Int) (t : List Int) : List (List Int) := (List.replicate 24 []).set (-1 - i).toNat t
theorem gives_one {i x : Int} {t : List Int} (hi : i < 0) (h24 : -24 ≤ i) (ht : t ≠ []) (hx : x < 0) : gives (oneS i t) x = if x = i then t else [x] := by
  by_cases e : x = i
  · subst e
    rw [if_pos rfl]
    refine gives_yes ?_ ht
    unfold oneS
    rw [List.getD_eq_getElem?_getD, List.getElem?_set_self (by simp; omega)]; rfl
  · rw [if_neg e]
    refine gives_no ?_
    unfold oneS
    rw [List.getD_eq_getElem?_getD, List.getElem?_set_ne (by omega)]
    rw [List.getElem?_replicate]
    split <;> rfl
theorem subP_one {ar t : List Int} {i : Int} (ht : TermP ar t) : SubP ar (oneS i t) := by
  refine ⟨by unfold oneS; simp, fun u hu h0 => ?_⟩
  unfold oneS at hu
  rcases List.mem_or_eq_of_mem_set hu with h | h
  · exact absurd (List.eq_of_mem_replicate h) h0
  · rw [h]; exact ht
def bindL (τ : List (List Int)) (i : Int) (t : List Int) : Nat → List (List Int)
  | 0 => []
  | k + 1 => bindL τ i t k ++ [fill (gives (oneS i t)) (gives τ (-1 - (k : Int)))]
theorem bindL_len (τ : List (List Int)) (i : Int) (t : List Int) : ∀ n, (bindL τ i t n).length = n
  | 0 => rfl
  | n + 1 => by rw [bindL, List.length_append, bindL_len τ i t n]; rfl
theorem bindL_get {τ : List (List Int)} {i : Int} {t : List Int} : ∀ {n k : Nat}, k < n → (bindL τ i t n)[k]? = some (fill (gives (oneS i t)) (gives τ (-1 - (k : Int))))
  | n + 1, k, h => by
    rw [bindL]
    rcases Nat.lt_or_ge k n with h1 | h1
    · rw [List.getElem?_append_left (by rw [bindL_len]; exact h1)]; exact bindL_get h1
    · obtain rfl : k = n := by omega
      rw [List.getElem?_append_right (by rw [bindL_len]; exact Nat.le_refl _), bindL_len, Nat.sub_self]; rfl
theorem fill_ne {h : Int → List Int} (hh : ∀ x, h x ≠ []) {t : List Int} (ht : t ≠ []) : fill h t ≠ [] := by
  cases t with
  | nil => exact absurd rfl ht
  | cons x t =>
    rw [fill_cons]
    intro e
    have e1 := (List.append_eq_nil_iff.1 e).1
    split at e1
    · exact hh x e1
    · cases e1
section
variable {ar t : List Int} {τ : List (List Int)} {i : Int}
theorem gives_bind {x : Int} (hx : x < 0) (h24 : -24 ≤ x) : gives (bindL τ i t 24) x = fill (gives (oneS i t)) (gives τ x) := by
  refine gives_yes ?_ (fill_ne (gives_ne _) (gives_ne _ _))
  rw [List.getD_eq_getElem?_getD, bindL_get (by omega : (-1 - x).toNat < 24), show (-1 - ((-1 - x).toNat : Int)) = x by omega]; rfl
theorem gives_far {x : Int} (h24 : x < -24) (hl : τ.length ≤ 24) : gives τ x = [x] := by
  refine gives_no ?_
  rw [List.getD_eq_getElem?_getD, List.getElem?_eq_none (by omega)]; rfl
theorem gives_mem {x z : Int} (hσ : SubP ar τ) (hz : z ∈ gives τ x) (hx : -24 ≤ x) : -24 ≤ z := by
  rcases hσ.at_ (-1 - x).toNat with h1 | h1
  · rw [gives_no h1, List.mem_singleton] at hz; omega
  · rw [gives_yes rfl (fun e => by rw [e] at h1; exact absurd h1.2.1.1 (by simp))] at hz; exact h1.2.2.1 z hz
/-- What is to be bound, and to what. -/
structure BindA (ar : List Int) (τ : List (List Int)) (i : Int) (t : List Int) : Prop where
  neg : i < 0
  rg : -24 ≤ i
  fr : gives τ i = [i]
  tm : TermP ar t
  tf : ∀ z ∈ t, z < 0 → gives τ z = [z]
  no : i ∉ t
theorem BindA.ne (h : BindA ar τ i t) : t ≠ [] := fun e => by have := h.tm.2.1.1; rw [e] at this; simp at this
theorem BindA.one (h : BindA ar τ i t) {x : Int} (hx : x < 0) : gives (oneS i t) x = if x = i then t else [x] := gives_one h.neg h.rg h.ne hx
/-- A variable in what has been filled. -/
theorem BindA.mem (h : BindA ar τ i t) (hI : Idm τ) {x z : Int} (hx : x < 0) (hz0 : z < 0) (hz : z ∈ fill (gives (oneS i t)) (gives τ x)) : gives τ z = [z] ∧ z ≠ i := by
  obtain ⟨u, hu, ⟨h1, h2⟩ | ⟨h1, h2⟩⟩ := mem_fill.1 hz
  · rw [h.one h1] at h2
    by_cases e : u = i
    · rw [if_pos e] at h2; exact ⟨h.tf z h2 hz0, fun e2 => h.no (e2 ▸ h2)⟩
    · rw [if_neg e, List.mem_singleton] at h2; subst h2; exact ⟨hI x hx z hu hz0, e⟩
  · omega
theorem BindA.idm (h : BindA ar τ i t) (hI : Idm τ) : Idm (bindL τ i t 24) := by
  intro y hy z hz hz0
  have hfar : ∀ x, x < -24 → gives (bindL τ i t 24) x = [x] := fun x hx => gives_far hx (by rw [bindL_len]; exact Nat.le_refl _)
  by_cases h24 : -24 ≤ y
  · rw [gives_bind hy h24] at hz
    obtain ⟨h1, h2⟩ := h.mem hI hy hz0 hz
    by_cases hz24 : -24 ≤ z
    · rw [gives_bind hz0 hz24, h1, fill_cons, if_pos hz0, fill_nil, List.append_nil, h.one hz0, if_neg h2]
    · exact hfar z (by omega)
  · rw [hfar y (by omega), List.mem_singleton] at hz
    subst hz; exact hfar z (by omega)
theorem BindA.sub (h : BindA ar τ i t) (hσ : SubP ar τ) (h60 : ∀ k : Nat, k < 24 → (fill (gives (oneS i t)) (gives τ (-1 - (k : Int)))).length ≤ 60) : SubP ar (bindL τ i t 24) := by
  refine ⟨by rw [bindL_len]; exact Nat.le_refl _, fun u hu h0 => ?_⟩
  obtain ⟨k, hk, rfl⟩ := List.mem_iff_getElem.1 hu
  rw [bindL_len] at hk
  have e := bindL_get (τ := τ) (i := i) (t := t) hk
  rw [List.getElem?_eq_getElem (by rw [bindL_len]; exact hk)] at e
  injection e with e
  rw [e]
  obtain ⟨g1, g2⟩ := givT_ok hσ (show (-1 - (k : Int)) < 0 by omega)
  obtain ⟨f1, f2⟩ := fill_tree (subP_one (i := i) h.tm) g1
  rw [g2] at f2
  rw [← f2]
  refine termP_flat h.tm.1 f1 (by rw [f2]; exact h60 k hk) fun z hz => ?_
  rw [f2] at hz
  obtain ⟨u, hu, ⟨h1, h2⟩ | ⟨h1, h2⟩⟩ := mem_fill.1 hz
  · have hu24 := gives_mem hσ hu (by omega)
    exact gives_mem (subP_one h.tm) h2 hu24
  · omega
/-- How many variables have nothing. -/
def fcnt (τ : List (List Int)) : Nat := ((List.range 24).filter fun k : Nat => decide (gives τ (-1 - (k : Int)) = [-1 - (k : Int)])).length
theorem BindA.cnt (h : BindA ar τ i t) (hI : Idm τ) (hl : τ.length ≤ 24) : fcnt (bindL τ i t 24) < fcnt τ := by
  unfold fcnt
  have hi : (-1 - ((-1 - i).toNat : Int)) = i := by have := h.neg; omega
  refine filter_lt (a := (-1 - i).toNat) (fun k hk => ?_) ?_ ?_ (List.mem_range.2 (by have := h.rg; have := h.neg; omega))
  · by_cases hk24 : k < 24
    · simp only [decide_eq_true_eq] at hk ⊢
      rw [gives_bind (by omega) (by omega)] at hk
      exact (h.mem hI (show (-1 - (k : Int)) < 0 by omega) (by omega) (by rw [hk]; simp)).1
    · simp only [decide_eq_true_eq]; exact gives_far (by omega) hl
  · simp only [decide_eq_true_eq]; rw [hi]; exact h.fr
  · simp only [decide_eq_false_iff_not]
    rw [hi, gives_bind h.neg h.rg, h.fr, fill_cons, if_pos h.neg, fill_nil, List.append_nil, h.one h.neg, if_pos rfl]
    intro e
    exact h.no (by rw [e]; simp)
/-- Two lists filled, equal up to a place. -/
def PreEq (x y : List Int) (k : Nat) : Prop := ∀ j, j < k → x[j]? = y[j]?
theorem pre_end {x y : List Int} {k : Nat} (hx : TermP ar x) (hy : TermP ar y) (h : PreEq x y k) (hk : k = x.length) (hl : k ≤ y.length) : x = y := by
  obtain ⟨ox, fx⟩ := tmOf_ok hx
  obtain ⟨oy, fy⟩ := tmOf_ok hy
  have e : y = x ++ y.drop k := by
    apply List.ext_getElem?
    intro j
    rcases Nat.lt_or_ge j k with hj | hj
    · rw [List.getElem?_append_left (by omega), h j hj]
    · rw [List.getElem?_append_right (by omega), List.getElem?_drop, ← hk]; congr 1; omega
  have := flat_inj (tmOf ar y) (tmOf ar x) oy ox [] (y.drop k) (by rw [fx, fy, List.append_nil]; exact e)
  rw [← fx, ← fy, this.1]
/-- A right term filled by a right list is right where it is not too long. -/
theorem fill_term {a : List Int} (hσ : SubP ar τ) (ha : TermP ar a) (h60 : (fill (gives τ) a).length ≤ 60) : TermP ar (fill (gives τ) a) := by
  obtain ⟨oa, fa⟩ := tmOf_ok ha
  obtain ⟨f1, f2⟩ := fill_tree hσ oa
  rw [fa] at f2
  rw [← f2] at h60 ⊢
  refine termP_flat ha.1 f1 h60 fun z hz => ?_
  rw [f2] at hz
  obtain ⟨u, hu, ⟨h1, h2⟩ | ⟨h1, h2⟩⟩ := mem_fill.1 hz
  · exact gives_mem hσ h2 (ha.2.2.1 u hu)
  · omega
theorem fill_free {a : List Int} (hI : Idm τ) {z : Int} (hz : z ∈ fill (gives τ) a) (h0 : z < 0) : gives τ z = [z] := by
  obtain ⟨u, hu, ⟨h1, h2⟩ | ⟨h1, h2⟩⟩ := mem_fill.1 hz
  · exact hI u h1 z h2 h0
  · omega
/-- What is to be bound at the first place where two filled terms part. -/
theorem bind_of {x y : List Int} {k : Nat} {i q : Int} (hx : TermP ar x) (hy : TermP ar y) (fx : ∀ z ∈ x, z < 0 → gives τ z = [z]) (fy : ∀ z ∈ y, z < 0 → gives τ z = [z]) (hi : x[k]? = some i) (hq : y[k]? = some q) (hi0 : i < 0) (hn : i ∉ (subT ar y k).flat) : BindA ar τ i (subT ar y k).flat := by
  have hky := (List.getElem?_eq_some_iff.1 hq).1
  obtain ⟨h1, h2, rest, h3⟩ := sub_term hy hky
  have him := List.mem_of_getElem? hi
  refine ⟨hi0, hx.2.2.1 i him, fx i him hi0, h1, fun z hz h0 => fy z ?_ h0, hn⟩
  have : z ∈ y.drop k := by rw [h3]; exact List.mem_append_left _ hz
  exact List.mem_of_mem_drop this
end
/-- A list with other variables. -/
def shI (k x : Int) : Int := if x < 0 then x - k else x
def shL (k : Int) (t : List Int) : List Int := t.map (shI k)
mutual
theorem Cp.subst {θ : Int → Tm} : ∀ {c t : Tm}, Cp c t → Cp c (t.sub θ)
  | _, t, .var h0 => .var h0
  | _, _, .fn (x := x) (cs := cs) (ts := ts) h0 h => by rw [sub_sym (by omega)]; exact .fn h0 (CpL.subst h)
theorem CpL.subst {θ : Int → Tm} : ∀ {cs ts : List Tm}, CpL cs ts → CpL cs (subL θ ts)
  | _, _, .nil => by rw [subL_nil]; exact .nil
  | _, _, .cons h k => by rw [subL_cons]; exact .cons (Cp.subst h) (CpL.subst k)
end
theorem capT_cp (s : Sy) (u : Tm) : Cp (capT s u) u := by
  obtain ⟨x, us⟩ := u
  rw [capT_node]
  by_cases h0 : x < 0
  · rw [if_pos h0]; exact .var (by omega)
  · rw [if_neg h0]; exact .fn (by omega) (capL_cp s us 0).1
theorem awT_flat' {ar : List Int} {u : Tm} (h : u.Ok ar) : (awT u).flat = u.flat.map fun x => if x < 0 then x - 24 else x := by
  unfold awT
  rw [flat_sub' _ u h]
  unfold fill
  rw [List.map_eq_flatMap]
  congr 1
  funext x
  by_cases h0 : x < 0
  · rw [if_pos h0, if_pos h0]; exact vr_flat _
  · rw [if_neg h0, if_neg h0]
theorem awT_ok' {ar : List Int} {u : Tm} (h : u.Ok ar) : (awT u).Ok ar := sub_ok (fun x hx => vr_ok ar (by omega)) u h
/-- What can be made one by other names is so capped. -/
theorem cap_uni {s : Sy} {a c : List Int} {τ : List (List Int)} {k : Int} (ha : TermP s.ar a) (hc : TermP s.ar c) (hσ : SubP s.ar τ) (hk : 0 ≤ k) (h24 : capF s a ≤ 24) (he : fill (gives τ) a = fill (gives τ) (shL k c)) : uniB (capT s (tmOf s.ar a)) (awT (tmOf s.ar c)) = true := by
  classical
  obtain ⟨oa, fa⟩ := tmOf_ok ha
  obtain ⟨oc, fc⟩ := tmOf_ok hc
  generalize hu : tmOf s.ar a = u at *
  generalize hv : tmOf s.ar c = v at *
  obtain ⟨f1, f2⟩ := fill_tree hσ oa
  rw [fa] at f2
  have hcap : (capT s u).flat = capO s a := by rw [← fa]; exact (capO_tree oa (by rw [fa]; exact ha)).symm
  obtain ⟨g, hg, hgf⟩ := (Cp.subst (θ := givT s.ar τ) (capT_cp s u)).inst f1 (by rw [hcap]; exact capO_lin s a)
  have hG : ∀ x, x < 0 → (tmOf s.ar (g x)).Ok s.ar ∧ (tmOf s.ar (g x)).flat = g x := fun x hx => by
    obtain ⟨w, ow, ew⟩ := hg x hx
    rw [ew, tmOf_flat ow]; exact ⟨ow, rfl⟩
  let ψ : Int → Tm := fun x => if -24 ≤ x then tmOf s.ar (g x) else givT s.ar τ (x + 24 - k)
  have hψ1 : ∀ x, -24 ≤ x → ψ x = tmOf s.ar (g x) := fun x h => if_pos h
  have hψ2 : ∀ x, x < -24 → ψ x = givT s.ar τ (x + 24 - k) := fun x h => if_neg (by omega)
  have hψo : ∀ x, x < 0 → (ψ x).Ok s.ar := fun x hx => by
    by_cases h : -24 ≤ x
    · rw [hψ1 x h]; exact (hG x hx).1
    · rw [hψ2 x (by omega)]; exact (givT_ok hσ (by omega)).1
  have hvars := (capO_term ha h24).2.2.1
  refine uniB_t (θ := ψ) ?_
  have oct := capT_ok (s := s) oa
  refine flat_inj' (ar := s.ar) (sub_ok hψo _ oct) (sub_ok hψo _ (awT_ok' oc)) ?_
  rw [flat_sub' ψ _ oct, flat_sub' ψ _ (awT_ok' oc)]
  have e1 : fill (fun x => (ψ x).flat) (capT s u).flat = fill (gives τ) a := by
    rw [← f2, ← hgf]
    refine fill_congr fun x hx h0 => ?_
    rw [hψ1 x (hvars x (by rw [← hcap]; exact hx)), (hG x h0).2]
  rw [e1, he, awT_flat' oc, fc]
  have hcv := hc.2.2.1
  have key : ∀ l : List Int, (∀ x ∈ l, -24 ≤ x) → fill (gives τ) (shL k l) = fill (fun x => (ψ x).flat) (l.map fun x => if x < 0 then x - 24 else x) := by
    intro l
    induction l with
    | nil => intro _; rfl
    | cons x l ih =>
      intro hl
      unfold shL at ih ⊢
      rw [List.map_cons, List.map_cons, fill_cons, fill_cons, ih fun y hy => hl y (List.mem_cons_of_mem _ hy)]
      congr 1
      unfold shI
      by_cases h0 : x < 0
      · rw [if_pos h0, if_pos (show x - k < 0 by omega), if_pos h0, if_pos (show x - 24 < 0 by omega), hψ2 (x - 24) (by omega), (givT_ok hσ (by omega)).2]
        congr 1; omega
      · rw [if_neg h0, if_neg h0, if_neg h0, if_neg h0]
  exact key c hcv
end Go.Proofs.Ytempekmenkeigaa
