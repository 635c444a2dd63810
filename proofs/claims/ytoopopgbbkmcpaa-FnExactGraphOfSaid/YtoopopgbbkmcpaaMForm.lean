/- Plain: linear forms of terms. -/
import Derived.Test.YtoopopgbbkmcpaaMTree
import Derived.Test.YtoopopgbbkmcpaaMPoly
namespace Go.Proofs.Ytoopopgbbkmcpaa

def addL : List Int → List Int → Int → List Int
  | as, [], _ => as
  | [], b :: bs, m => m * b :: addL [] bs m
  | a :: as, b :: bs, m => (a + m * b) :: addL as bs m
theorem addL_nil (as : List Int) (m : Int) : addL as [] m = as := by cases as <;> rfl
theorem addL_len : ∀ (as bs : List Int) (m : Int), (addL as bs m).length = max as.length bs.length
  | as, [], m => by rw [addL_nil]; simp
  | [], b :: bs, m => by rw [addL, List.length_cons, addL_len]; simp
  | a :: as, b :: bs, m => by rw [addL, List.length_cons, addL_len]; simp
theorem addL_get : ∀ (as bs : List Int) (m : Int) (j : Nat), (addL as bs m).getD j 0 = as.getD j 0 + m * bs.getD j 0
  | as, [], m, j => by rw [addL_nil]; simp
  | [], b :: bs, m, 0 => by simp [addL]
  | [], b :: bs, m, j + 1 => by
    have := addL_get [] bs m j
    simpa [addL] using this
  | a :: as, b :: bs, m, 0 => by simp [addL]
  | a :: as, b :: bs, m, j + 1 => by
    have := addL_get as bs m j
    simpa [addL] using this
theorem list_eq_getD {as bs : List Int} (hl : as.length = bs.length) (h : ∀ j, j < as.length → as.getD j 0 = bs.getD j 0) : as = bs := by
  apply List.ext_getElem hl
  intro j h1 h2
  have := h j h1
  simpa [List.getD_eq_getElem?_getD, List.getElem?_eq_getElem h1, List.getElem?_eq_getElem h2] using this
def addP (a b : Pl) (m : Int) : Pl := ⟨a.c + m * b.c, addL a.cf b.cf m⟩
def sumTo (p : Pl) (fs : List Pl) : Nat → Pl
  | 0 => ⟨p.c, []⟩
  | k + 1 => addP (sumTo p fs k) (fs.getD k ⟨0, []⟩) (p.cf.getD k 0)
/-- A number of it is too great. -/
def Big (f : Pl) : Prop := 1000000000000 < f.c ∨ ∃ x ∈ f.cf, 1000000000000 < x
/-- No number of it is less than 0 or greater than that. -/
def Upto (M : Int) (f : Pl) : Prop := (0 ≤ f.c ∧ f.c ≤ M) ∧ ∀ x ∈ f.cf, 0 ≤ x ∧ x ≤ M
def Fm (f : Pl) : Prop := Upto 1000000000000 f ∧ f.cf.length ≤ 24
theorem Upto.getD {M : Int} {f : Pl} (h : Upto M f) (hM : 0 ≤ M) (j : Nat) : 0 ≤ f.cf.getD j 0 ∧ f.cf.getD j 0 ≤ M := by
  rw [List.getD_eq_getElem?_getD]
  rcases hj : f.cf[j]? with _ | x
  · simpa using hM
  · exact h.2 x (List.mem_of_getElem? hj)
theorem Upto.of_getD {M : Int} {f : Pl} (hc : 0 ≤ f.c ∧ f.c ≤ M) (h : ∀ j, j < f.cf.length → 0 ≤ f.cf.getD j 0 ∧ f.cf.getD j 0 ≤ M) : Upto M f := by
  refine ⟨hc, fun x hx => ?_⟩
  obtain ⟨j, hj, rfl⟩ := List.mem_iff_getElem.1 hx
  have := h j hj
  rwa [List.getD_eq_getElem?_getD, List.getElem?_eq_getElem hj] at this
theorem mul_bd {m x : Int} (hm : 0 ≤ m ∧ m ≤ 9) {M : Int} (hx : 0 ≤ x ∧ x ≤ M) : 0 ≤ m * x ∧ m * x ≤ 9 * M :=
  ⟨Int.mul_nonneg hm.1 hx.1, Int.le_trans (Int.mul_le_mul_of_nonneg_right hm.2 hx.1) (Int.mul_le_mul_of_nonneg_left hx.2 (by omega))⟩
theorem addP_upto {A B : Int} {a b : Pl} {m : Int} (ha : Upto A a) (hA : 0 ≤ A) (hb : Upto B b) (hB : 0 ≤ B) (hm : 0 ≤ m ∧ m ≤ 9) : Upto (A + 9 * B) (addP a b m) := by
  have h1 := mul_bd hm hb.1
  refine Upto.of_getD ⟨?_, ?_⟩ fun j hj => ?_
  · show 0 ≤ a.c + m * b.c; have := ha.1; omega
  · show a.c + m * b.c ≤ _; have := ha.1; omega
  · show 0 ≤ (addL a.cf b.cf m).getD j 0 ∧ _
    rw [show (addP a b m).cf = addL a.cf b.cf m from rfl, addL_get]
    have h2 := ha.getD hA j
    have h3 := mul_bd hm (hb.getD hB j)
    omega
/-- The factors of a polynomial and the forms of its arguments. -/
def Parts (p : Pl) (fs : List Pl) : Prop := (0 ≤ p.c ∧ p.c ≤ 9) ∧ (∀ x ∈ p.cf, 0 ≤ x ∧ x ≤ 9) ∧ fs.length ≤ 3 ∧ ∀ f ∈ fs, Fm f
theorem Parts.get {p : Pl} {fs : List Pl} (h : Parts p fs) (k : Nat) : Upto 1000000000000 (fs.getD k ⟨0, []⟩) ∧ (fs.getD k ⟨0, []⟩).cf.length ≤ 24 := by
  rw [List.getD_eq_getElem?_getD]
  rcases hk : fs[k]? with _ | f
  · exact ⟨⟨by simp, by simp⟩, by simp⟩
  · exact h.2.2.2 f (List.mem_of_getElem? hk)
theorem Parts.fac {p : Pl} {fs : List Pl} (h : Parts p fs) (k : Nat) : 0 ≤ p.cf.getD k 0 ∧ p.cf.getD k 0 ≤ 9 := by
  rw [List.getD_eq_getElem?_getD]
  rcases hk : p.cf[k]? with _ | f
  · simp
  · exact h.2.1 f (List.mem_of_getElem? hk)
theorem sumTo_upto {p : Pl} {fs : List Pl} (h : Parts p fs) : ∀ k : Nat, Upto (9 + 9 * (k * 1000000000000)) (sumTo p fs k) ∧ (sumTo p fs k).cf.length ≤ 24
  | 0 => ⟨⟨⟨h.1.1, by have := h.1.2; show p.c ≤ _; omega⟩, by simp [sumTo]⟩, by simp [sumTo]⟩
  | k + 1 => by
    obtain ⟨h1, h2⟩ := sumTo_upto h k
    obtain ⟨h3, h4⟩ := h.get k
    have h5 := addP_upto h1 (by omega) h3 (by omega) (h.fac k)
    refine ⟨?_, ?_⟩
    · show Upto _ (addP _ _ _)
      refine ⟨⟨h5.1.1, by have := h5.1.2; omega⟩, fun x hx => ?_⟩
      have := h5.2 x hx; omega
    · show (addL _ _ _).length ≤ 24
      rw [addL_len]; omega
theorem Big.iff {f : Pl} : Big f ↔ 1000000000000 < f.c ∨ ∃ j, j < f.cf.length ∧ 1000000000000 < f.cf.getD j 0 := by
  constructor
  · rintro (h | ⟨x, hx, h⟩)
    · exact .inl h
    · obtain ⟨j, hj, rfl⟩ := List.mem_iff_getElem.1 hx
      exact .inr ⟨j, hj, by rwa [List.getD_eq_getElem?_getD, List.getElem?_eq_getElem hj]⟩
  · rintro (h | ⟨j, hj, h⟩)
    · exact .inl h
    · exact .inr ⟨_, List.getElem_mem hj, by rwa [List.getD_eq_getElem?_getD, List.getElem?_eq_getElem hj] at h⟩
theorem Big.step {p : Pl} {fs : List Pl} (h : Parts p fs) {k : Nat} (hb : Big (sumTo p fs k)) : Big (sumTo p fs (k + 1)) := by
  obtain ⟨h3, _⟩ := h.get k
  have hm := h.fac k
  rw [Big.iff] at hb ⊢
  rcases hb with hb | ⟨j, hj, hb⟩
  · left
    show _ < (sumTo p fs k).c + _ * _
    have := mul_bd hm h3.1; omega
  · right
    refine ⟨j, ?_, ?_⟩
    · show j < (addL _ _ _).length
      rw [addL_len]; omega
    · show _ < (addL _ _ _).getD j 0
      rw [addL_get]
      have := mul_bd hm (h3.getD (by omega) j); omega
theorem Big.mono {p : Pl} {fs : List Pl} (h : Parts p fs) {k n : Nat} (hkn : k ≤ n) (hb : Big (sumTo p fs k)) : Big (sumTo p fs n) := by
  induction n with
  | zero => obtain rfl : k = 0 := by omega
            exact hb
  | succ n ih =>
    rcases Nat.lt_or_ge k (n + 1) with h1 | h1
    · exact Big.step h (ih (by omega))
    · obtain rfl : k = n + 1 := by omega
      exact hb
theorem fm_of_not_big {p : Pl} {fs : List Pl} (h : Parts p fs) {k : Nat} (hb : ¬ Big (sumTo p fs k)) : Fm (sumTo p fs k) := by
  obtain ⟨h1, h2⟩ := sumTo_upto h k
  refine ⟨⟨⟨h1.1.1, ?_⟩, fun x hx => ⟨(h1.2 x hx).1, ?_⟩⟩, h2⟩
  · have : ¬ 1000000000000 < (sumTo p fs k).c := fun h => hb (.inl h)
    omega
  · have : ¬ 1000000000000 < x := fun h => hb (.inr ⟨x, hx, h⟩)
    omega
open Classical in
noncomputable def appP (p : Pl) (fs : List Pl) : Option Pl := if Big (sumTo p fs fs.length) then none else some (sumTo p fs fs.length)
/-- The form of a variable. -/
def varPl (x : Int) : Pl := ⟨0, List.replicate ((-x).toNat - 1) 0 ++ [1]⟩
mutual
noncomputable def form (ps : List Pl) : Tm → Option Pl
  | .node x us => if x < 0 then some (varPl x) else (formL ps us).bind fun fs => appP (ps.getD x.toNat ⟨0, []⟩) fs
noncomputable def formL (ps : List Pl) : List Tm → Option (List Pl)
  | [] => some []
  | a :: us => (form ps a).bind fun f => (formL ps us).map fun fs => f :: fs
end
theorem form_node (ps : List Pl) (x : Int) (us : List Tm) : form ps (.node x us) = if x < 0 then some (varPl x) else (formL ps us).bind fun fs => appP (ps.getD x.toNat ⟨0, []⟩) fs := by rw [form]
theorem formL_nil (ps : List Pl) : formL ps [] = some [] := by rw [formL]
theorem formL_cons (ps : List Pl) (a : Tm) (us : List Tm) : formL ps (a :: us) = (form ps a).bind fun f => (formL ps us).map fun fs => f :: fs := by rw [formL]
theorem formL_none {ps : List Pl} : ∀ {us : List Tm} {j : Nat} {a : Tm}, us[j]? = some a → form ps a = none → formL ps us = none
  | b :: us, 0, a, h, hf => by simp at h; subst h; rw [formL_cons, hf]; rfl
  | b :: us, j + 1, a, h, hf => by
    rw [formL_cons, formL_none (by simpa using h) hf]
    cases form ps b <;> rfl
theorem formL_some {ps : List Pl} : ∀ {us : List Tm} {fs : List Pl}, fs.length = us.length → (∀ (j : Nat) (a : Tm) (f : Pl), us[j]? = some a → fs[j]? = some f → form ps a = some f) → formL ps us = some fs
  | [], [], _, _ => by rw [formL_nil]
  | [], f :: fs, h, _ => by simp at h
  | b :: us, [], h, _ => by simp at h
  | b :: us, f :: fs, hl, h => by
    rw [formL_cons, h 0 b f rfl rfl, formL_some (by simpa using hl) (fun j a g e1 e2 => h (j + 1) a g (by simpa using e1) (by simpa using e2))]
    rfl
theorem varPl_fm {x : Int} (h : x < 0) (h2 : -24 ≤ x) : Fm (varPl x) := by
  refine ⟨⟨⟨Int.le_refl _, by show (0 : Int) ≤ 1000000000000; omega⟩, fun y hy => ?_⟩, ?_⟩
  · simp only [varPl, List.mem_append, List.mem_replicate, List.mem_singleton] at hy
    omega
  · simp only [varPl, List.length_append, List.length_replicate, List.length_singleton]
    omega
mutual
theorem form_fm {ar : List Int} {ps : List Pl} (hps : ∀ p ∈ ps, (0 ≤ p.c ∧ p.c ≤ 9) ∧ ∀ x ∈ p.cf, 0 ≤ x ∧ x ≤ 9) (h3 : ∀ (x : Int) (a : Nat), arI ar x = some a → a ≤ 3) : ∀ (u : Tm), u.Ok ar → (∀ y ∈ u.flat, -24 ≤ y) → ∀ f, form ps u = some f → Fm f
  | .node x us, hu, hv, f, h => by
    rw [form_node] at h
    by_cases hx : x < 0
    · rw [if_pos hx] at h
      cases h
      exact varPl_fm hx (hv x (by rw [flat_node]; exact List.mem_cons_self))
    · rw [if_neg hx] at h
      obtain ⟨fs, h1, h2⟩ := Option.bind_eq_some_iff.1 h
      obtain ⟨hk, hl⟩ := Ok_node.1 hu
      obtain ⟨hfs, hlen⟩ := formL_fm hps h3 us hl (fun y hy => hv y (by rw [flat_node]; exact List.mem_cons_of_mem _ hy)) fs h1
      have hp : (0 ≤ (ps.getD x.toNat ⟨0, []⟩).c ∧ (ps.getD x.toNat ⟨0, []⟩).c ≤ 9) ∧ ∀ y ∈ (ps.getD x.toNat ⟨0, []⟩).cf, 0 ≤ y ∧ y ≤ 9 := by
        rw [List.getD_eq_getElem?_getD]
        rcases hj : ps[x.toNat]? with _ | p
        · simp
        · exact hps p (List.mem_of_getElem? hj)
      have hP : Parts (ps.getD x.toNat ⟨0, []⟩) fs := ⟨hp.1, hp.2, by have := h3 x _ hk; omega, hfs⟩
      unfold appP at h2
      split at h2
      · cases h2
      · rename_i hb
        cases h2
        exact fm_of_not_big hP hb
theorem formL_fm {ar : List Int} {ps : List Pl} (hps : ∀ p ∈ ps, (0 ≤ p.c ∧ p.c ≤ 9) ∧ ∀ x ∈ p.cf, 0 ≤ x ∧ x ≤ 9) (h3 : ∀ (x : Int) (a : Nat), arI ar x = some a → a ≤ 3) : ∀ (us : List Tm), OkL ar us → (∀ y ∈ flatL us, -24 ≤ y) → ∀ fs, formL ps us = some fs → (∀ f ∈ fs, Fm f) ∧ fs.length = us.length
  | [], _, _, fs, h => by rw [formL_nil] at h; cases h; exact ⟨fun f hf => (by cases hf), rfl⟩
  | a :: us, hu, hv, fs, h => by
    rw [formL_cons] at h
    obtain ⟨f, h1, h2⟩ := Option.bind_eq_some_iff.1 h
    obtain ⟨gs, h4, rfl⟩ := Option.map_eq_some_iff.1 h2
    obtain ⟨k1, k2⟩ := OkL_cons.1 hu
    have hf := form_fm hps h3 a k1 (fun y hy => hv y (by rw [flatL_cons]; exact List.mem_append_left _ hy)) f h1
    obtain ⟨hg, hl⟩ := formL_fm hps h3 us k2 (fun y hy => hv y (by rw [flatL_cons]; exact List.mem_append_right _ hy)) gs h4
    exact ⟨fun q hq => (List.mem_cons.1 hq).elim (fun e => e ▸ hf) (fun h => hg q h), by simp [hl]⟩
end

/-- The greatest of some numbers. -/
def maxL (t : List Int) : Int := match t with
  | [] => 0
  | x :: xs => xs.foldl (fun a b => if a < b then b else a) x
theorem maxL_snoc {t : List Int} {y : Int} (h : t ≠ []) : maxL (t ++ [y]) = if maxL t < y then y else maxL t := by
  cases t with
  | nil => exact absurd rfl h
  | cons x xs =>
    show List.foldl _ x (xs ++ [y]) = _
    rw [List.foldl_append]; rfl
theorem maxL_gt {t : List Int} {m : Int} (h : t ≠ []) : m < maxL t ↔ ∃ x ∈ t, m < x := by
  cases t with
  | nil => exact absurd rfl h
  | cons x xs =>
    have : ∀ (l : List Int) (a : Int), m < l.foldl (fun a b => if a < b then b else a) a ↔ m < a ∨ ∃ x ∈ l, m < x := by
      intro l
      induction l with
      | nil => intro a; simp
      | cons b l ih =>
        intro a
        rw [List.foldl_cons, ih]
        by_cases hb : a < b
        · rw [if_pos hb]; simp only [List.mem_cons, exists_eq_or_imp]; constructor
          · rintro (h1 | h1)
            · exact .inr (.inl h1)
            · exact .inr (.inr h1)
          · rintro (h1 | h1 | h1)
            · exact .inl (by omega)
            · exact .inl h1
            · exact .inr h1
        · rw [if_neg hb]; simp only [List.mem_cons, exists_eq_or_imp]; constructor
          · rintro (h1 | h1)
            · exact .inl h1
            · exact .inr (.inr h1)
          · rintro (h1 | h1 | h1)
            · exact .inl h1
            · exact .inl (by omega)
            · exact .inr h1
    show m < xs.foldl _ x ↔ _
    rw [this]; simp
theorem big_max {f : Pl} (h : f.cf ≠ []) : Big f ↔ 1000000000000 < f.c ∨ 1000000000000 < maxL f.cf := by unfold Big; rw [maxL_gt h]
theorem big_nil {f : Pl} (h : f.cf = []) : Big f ↔ 1000000000000 < f.c := by unfold Big; rw [h]; simp
/-- The factor of a variable, 0 where there is none. -/
def nth (xs : List Int) (k : Nat) : Int := xs.getD k 0
/-- No factor is greater. -/
def Most (a b : Pl) : Prop := ∀ (j : Nat) (x : Int), a.cf[j]? = some x → x ≤ nth b.cf j
noncomputable def most (a b : Pl) : Bool := @decide (Most a b) (Classical.propDecidable _)
theorem most_f {a b : Pl} {j : Nat} {x : Int} (hx : a.cf[j]? = some x) (h : nth b.cf j < x) : most a b = false := by
  simp only [most, decide_eq_false_iff_not]; exact fun H => by have := H j x hx; omega
theorem most_t {a b : Pl} (h : ∀ (j : Nat) (x : Int), j < a.cf.length → a.cf[j]? = some x → x ≤ nth b.cf j) : most a b = true := by
  simp only [most, decide_eq_true_eq]; exact fun j x hx => h j x (List.getElem?_eq_some_iff.1 hx).1 hx

end Go.Proofs.Ytoopopgbbkmcpaa
