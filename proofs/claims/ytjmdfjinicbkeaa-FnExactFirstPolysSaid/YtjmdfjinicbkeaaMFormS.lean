/- Plain: sums of forms, one argument after the other. -/
import Derived.Test.YtjmdfjinicbkeaaMForm
namespace Go.Proofs.Ytjmdfjinicbkeaa

theorem sumTo_congr {p : Pl} {fs gs : List Pl} : ∀ {k : Nat}, (∀ j, j < k → fs.getD j ⟨0, []⟩ = gs.getD j ⟨0, []⟩) → sumTo p fs k = sumTo p gs k
  | 0, _ => rfl
  | k + 1, h => by
    show addP _ _ _ = addP _ _ _
    rw [sumTo_congr (k := k) (fun j hj => h j (by omega)), h k (by omega)]
theorem sumTo_snoc {p : Pl} {fs : List Pl} {f : Pl} {k : Nat} (hk : fs.length = k) : sumTo p (fs ++ [f]) (k + 1) = addP (sumTo p fs k) f (p.cf.getD k 0) := by
  show addP _ _ _ = _
  have h1 : sumTo p (fs ++ [f]) k = sumTo p fs k := sumTo_congr fun j hj => by
    rw [List.getD_eq_getElem?_getD, List.getD_eq_getElem?_getD, List.getElem?_append_left (by omega)]
  have h2 : (fs ++ [f]).getD k ⟨0, []⟩ = f := by
    rw [List.getD_eq_getElem?_getD, List.getElem?_append_right (by omega), hk, Nat.sub_self]; rfl
  rw [h1, h2]
theorem formL_get {ps : List Pl} : ∀ {us : List Tm} {gs : List Pl}, formL ps us = some gs → gs.length = us.length ∧ ∀ (j : Nat) (a : Tm), us[j]? = some a → ∃ g, gs[j]? = some g ∧ form ps a = some g
  | [], gs, h => by
    rw [formL_nil] at h; cases h
    exact ⟨rfl, fun j a h => by simp at h⟩
  | b :: us, gs, h => by
    rw [formL_cons] at h
    obtain ⟨f, h1, h2⟩ := Option.bind_eq_some_iff.1 h
    obtain ⟨hs, h4, rfl⟩ := Option.map_eq_some_iff.1 h2
    obtain ⟨h5, h6⟩ := formL_get h4
    refine ⟨by simp [h5], fun j a ha => ?_⟩
    cases j with
    | zero => simp at ha; subst ha; exact ⟨f, rfl, h1⟩
    | succ j => exact h6 j a (by simpa using ha)
/-- The first forms of some terms. -/
def FirstF (ps : List Pl) (us : List Tm) (fs : List Pl) (k : Nat) : Prop := fs.length = k ∧ ∀ (j : Nat) (a : Tm) (f : Pl), us[j]? = some a → fs[j]? = some f → form ps a = some f
theorem FirstF.zero (ps : List Pl) (us : List Tm) : FirstF ps us [] 0 := ⟨rfl, fun j a f _ h => by simp at h⟩
theorem FirstF.push {ps : List Pl} {us : List Tm} {fs : List Pl} {k : Nat} {a : Tm} {f : Pl} (h : FirstF ps us fs k) (ha : us[k]? = some a) (hf : form ps a = some f) : FirstF ps us (fs ++ [f]) (k + 1) := by
  refine ⟨by simp [h.1], fun j b g h1 h2 => ?_⟩
  rcases Nat.lt_or_ge j k with hj | hj
  · exact h.2 j b g h1 (by rwa [List.getElem?_append_left (by have := h.1; omega)] at h2)
  · have hjk : j = k := by have := (List.getElem?_eq_some_iff.1 h2).1; simp [h.1] at this; omega
    subst hjk
    rw [List.getElem?_append_right (by have := h.1; omega), h.1, Nat.sub_self] at h2
    rw [ha] at h1; cases h1; cases h2; exact hf
theorem FirstF.all {ps : List Pl} {us : List Tm} {fs : List Pl} (h : FirstF ps us fs us.length) : formL ps us = some fs := formL_some h.1 h.2
theorem FirstF.parts {ps : List Pl} {us : List Tm} {fs : List Pl} {k : Nat} {p : Pl} (h : FirstF ps us fs k) (hk : k ≤ us.length) (hp : (0 ≤ p.c ∧ p.c ≤ 9) ∧ ∀ x ∈ p.cf, 0 ≤ x ∧ x ≤ 9) (h3 : us.length ≤ 3) (hfm : ∀ a ∈ us, ∀ f, form ps a = some f → Fm f) : Parts p fs := by
  refine ⟨hp.1, hp.2, by have := h.1; omega, fun f hf => ?_⟩
  obtain ⟨j, hj, rfl⟩ := List.mem_iff_getElem.1 hf
  have hju : j < us.length := by have := h.1; omega
  exact hfm us[j] (List.getElem_mem hju) _ (h.2 j _ _ (List.getElem?_eq_getElem hju) (List.getElem?_eq_getElem hj))
/-- A sum that is too great early is so at the end. -/
theorem big_early {ps : List Pl} {us : List Tm} {fs : List Pl} {k : Nat} {p : Pl} (h : FirstF ps us fs k) (hk : k ≤ us.length) (hp : (0 ≤ p.c ∧ p.c ≤ 9) ∧ ∀ x ∈ p.cf, 0 ≤ x ∧ x ≤ 9) (h3 : us.length ≤ 3) (hfm : ∀ a ∈ us, ∀ f, form ps a = some f → Fm f)
    (hb : Big (sumTo p fs k)) : (formL ps us).bind (fun gs => appP p gs) = none := by
  cases hg : formL ps us with
  | none => rfl
  | some gs =>
    obtain ⟨h1, h2⟩ := formL_get hg
    have hF : FirstF ps us gs us.length := ⟨h1, fun j a f ha hf => by
      obtain ⟨g, h4, h5⟩ := h2 j a ha
      rw [h4] at hf; cases hf; exact h5⟩
    have he : sumTo p fs k = sumTo p gs k := sumTo_congr fun j hj => by
      have hju : j < us.length := by omega
      obtain ⟨g, h4, h5⟩ := h2 j us[j] (List.getElem?_eq_getElem hju)
      have hjf : j < fs.length := by have := h.1; omega
      have := h.2 j us[j] fs[j] (List.getElem?_eq_getElem hju) (List.getElem?_eq_getElem hjf)
      rw [h5] at this; cases this
      rw [List.getD_eq_getElem?_getD, List.getD_eq_getElem?_getD, h4, List.getElem?_eq_getElem hjf]
    rw [he] at hb
    show appP p gs = none
    unfold appP
    rw [if_pos (Big.mono (hF.parts (Nat.le_refl _) hp h3 hfm) (by omega) hb)]
theorem app_sum {p : Pl} {fs : List Pl} {k : Nat} (hk : fs.length = k) (hb : ¬ Big (sumTo p fs k)) : appP p fs = some (sumTo p fs k) := by
  subst hk; unfold appP; rw [if_neg hb]
theorem not_big_start {p : Pl} {fs : List Pl} (hp : 0 ≤ p.c ∧ p.c ≤ 9) : ¬ Big (sumTo p fs 0) := by
  rintro (h | ⟨x, hx, _⟩)
  · simp [sumTo] at h; omega
  · simp [sumTo] at hx

end Go.Proofs.Ytjmdfjinicbkeaa
