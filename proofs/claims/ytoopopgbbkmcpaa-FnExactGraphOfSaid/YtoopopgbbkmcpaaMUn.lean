/- Several texts in one: MUni, MUniS, MUniT. -/
import Derived.Test.YtoopopgbbkmcpaaMSub
namespace Go.Proofs.Ytoopopgbbkmcpaa
set_option linter.unusedSimpArgs false
set_option linter.unusedVariables false

/-! Plain: two terms made one by what variables have. -/
mutual
theorem sub_sub (g h : Int → Tm) : ∀ u : Tm, (u.sub g).sub h = u.sub fun x => (g x).sub h
  | .node x as => by
    by_cases h0 : x < 0
    · rw [sub_var h0, sub_var h0]
    · rw [sub_sym h0, sub_sym h0, sub_sym h0, subL_subL g h as]
theorem subL_subL (g h : Int → Tm) : ∀ as : List Tm, subL h (subL g as) = subL (fun x => (g x).sub h) as
  | [] => by rw [subL_nil, subL_nil, subL_nil]
  | a :: as => by rw [subL_cons, subL_cons, subL_cons, sub_sub g h a, subL_subL g h as]
end
/-- A variable as a tree. -/
def vr (x : Int) : Tm := .node x []
theorem vr_flat (x : Int) : (vr x).flat = [x] := by unfold vr; rw [flat_node, flatL_nil]
theorem vr_ok (ar : List Int) {x : Int} (h : x < 0) : (vr x).Ok ar := var_ok ar h
theorem vr_sub {g : Int → Tm} {x : Int} (h : x < 0) : (vr x).sub g = g x := sub_var h
theorem ok_var {ar : List Int} {x : Int} {as : List Tm} (h : (Tm.node x as).Ok ar) (hx : x < 0) : Tm.node x as = vr x := by
  have h1 := (Ok_node.1 h).1
  rw [arI_var hx] at h1
  have e : as = [] := List.length_eq_zero_iff.1 (Option.some.inj h1).symm
  rw [e]; rfl
mutual
theorem sub_id {ar : List Int} : ∀ u : Tm, u.Ok ar → u.sub vr = u
  | .node x as, h => by
    by_cases h0 : x < 0
    · rw [sub_var h0, ok_var h h0]
    · rw [sub_sym h0, subL_id as (Ok_node.1 h).2]
theorem subL_id {ar : List Int} : ∀ as : List Tm, OkL ar as → subL vr as = as
  | [], _ => subL_nil _
  | a :: as, h => by
    obtain ⟨h1, h2⟩ := OkL_cons.1 h
    rw [subL_cons, sub_id a h1, subL_id as h2]
end
theorem mem_fill {h : Int → List Int} {t : List Int} {z : Int} : z ∈ fill h t ↔ ∃ y ∈ t, (y < 0 ∧ z ∈ h y) ∨ (¬ y < 0 ∧ z = y) := by
  unfold fill
  rw [List.mem_flatMap]
  constructor
  · rintro ⟨y, h1, h2⟩
    by_cases h0 : y < 0
    · rw [if_pos h0] at h2; exact ⟨y, h1, .inl ⟨h0, h2⟩⟩
    · rw [if_neg h0, List.mem_singleton] at h2; exact ⟨y, h1, .inr ⟨h0, h2⟩⟩
  · rintro ⟨y, h1, ⟨h0, h2⟩ | ⟨h0, rfl⟩⟩
    · exact ⟨y, h1, by rw [if_pos h0]; exact h2⟩
    · exact ⟨z, h1, by rw [if_neg h0]; simp⟩
theorem mem_sub {ar : List Int} {g : Int → Tm} {u : Tm} (hu : u.Ok ar) {z : Int} : z ∈ (u.sub g).flat ↔ ∃ y ∈ u.flat, (y < 0 ∧ z ∈ (g y).flat) ∨ (¬ y < 0 ∧ z = y) := by
  rw [flat_sub' g u hu]; exact mem_fill
theorem fill_len_le {h : Int → List Int} {M : Nat} (hM : 1 ≤ M) : ∀ {t : List Int}, (∀ x ∈ t, x < 0 → (h x).length ≤ M) → (fill h t).length ≤ t.length * M
  | [], _ => by rw [fill_nil]; simp
  | x :: t, hh => by
    rw [fill_cons, List.length_append, List.length_cons, Nat.add_mul, Nat.one_mul]
    have h2 := fill_len_le hM fun y hy => hh y (List.mem_cons_of_mem _ hy)
    have h3 : (if x < 0 then h x else [x]).length ≤ M := by
      by_cases h0 : x < 0
      · rw [if_pos h0]; exact hh x List.mem_cons_self h0
      · rw [if_neg h0]; exact hM
    omega
theorem fill_len_ge {h : Int → List Int} {x : Int} (hx : x < 0) : ∀ {t : List Int}, x ∈ t → (h x).length ≤ (fill h t).length
  | y :: t, hm => by
    rw [fill_cons, List.length_append]
    rcases List.mem_cons.1 hm with rfl | hm
    · rw [if_pos hx]; omega
    · have := fill_len_ge (h := h) hx hm; omega
theorem arg_len {ar : List Int} {g : Int → Tm} {x : Int} {as : List Tm} {a : Tm} (hx : ¬ x < 0) (ha : a ∈ as) : (a.sub g).flat.length < ((Tm.node x as).sub g).flat.length := by
  rw [sub_sym hx, flat_node, List.length_cons]
  have := mem_flatL_len (a := a.sub g) (as := subL g as) (by rw [subL_map]; exact List.mem_map_of_mem ha)
  omega

/-- What variables have, filled in to the end. -/
structure Tri (ar : List Int) (b : Int → Option Tm) (σ : Int → Tm) (r : Int → Nat) : Prop where
  neg : ∀ x t, b x = some t → x < 0
  ok : ∀ x t, b x = some t → t.Ok ar
  dom : ∀ x t, b x = some t → ∀ y ∈ t.flat, -48 ≤ y
  sok : ∀ x, x < 0 → (σ x).Ok ar
  bnd : ∀ x t, b x = some t → σ x = t.sub σ
  lt : ∀ x t, b x = some t → ∀ y ∈ t.flat, y < 0 → r y < r x
  unb : ∀ x, x < 0 → b x = none → σ x = vr x
  fin : ∀ x, x < 0 → ∀ y ∈ (σ x).flat, y < 0 → b y = none
/-- A filling agrees with what variables have. -/
def Sol (θ : Int → Tm) (b : Int → Option Tm) : Prop := ∀ x t, b x = some t → θ x = t.sub θ
def setB (b : Int → Option Tm) (x : Int) (t : Tm) : Int → Option Tm := fun y => if y = x then some t else b y
theorem setB_same (b : Int → Option Tm) (x : Int) (t : Tm) : setB b x t x = some t := if_pos rfl
theorem setB_other {b : Int → Option Tm} {x y : Int} {t : Tm} (h : y ≠ x) : setB b x t y = b y := if_neg h
theorem Tri.start (ar : List Int) : Tri ar (fun _ => none) vr (fun _ => 0) :=
  ⟨(fun _ _ h => nomatch h), (fun _ _ h => nomatch h), (fun _ _ h => nomatch h), (fun x hx => vr_ok ar hx), (fun _ _ h => nomatch h), (fun _ _ h => nomatch h), (fun _ _ _ => rfl), (fun _ _ _ _ _ => rfl)⟩
section
variable {ar : List Int} {b : Int → Option Tm} {σ θ : Int → Tm} {r : Int → Nat} {x : Int} {t u v : Tm}
theorem Tri.sol (h : Tri ar b σ r) : Sol σ b := h.bnd
/-- Filled to the end and filled once more is filled. -/
theorem Tri.twice (h : Tri ar b σ r) (hs : Sol θ b) : ∀ n x, r x < n → x < 0 → (σ x).sub θ = θ x := by
  intro n
  induction n with
  | zero => intro x hn; omega
  | succ n ih =>
    intro x hn hx
    rcases hb : b x with _ | t
    · rw [h.unb x hx hb, vr_sub hx]
    · rw [h.bnd x t hb, sub_sub, hs x t hb]
      exact sub_congr t (h.ok x t hb) fun y hy h0 => ih y (by have := h.lt x t hb y hy h0; omega) h0
theorem Tri.full (h : Tri ar b σ r) (hs : Sol θ b) (ht : t.Ok ar) : (t.sub σ).sub θ = t.sub θ := by
  rw [sub_sub]
  exact sub_congr t ht fun y hy h0 => h.twice hs _ y (Nat.lt_succ_self _) h0
theorem Tri.free (h : Tri ar b σ r) (ht : t.Ok ar) {y : Int} (hy : y ∈ (t.sub σ).flat) (h0 : y < 0) : b y = none := by
  obtain ⟨z, hz, ⟨h1, h2⟩ | ⟨h1, h2⟩⟩ := (mem_sub ht).1 hy
  · exact h.fin z h1 y h2 h0
  · subst h2; exact absurd h0 h1
theorem mem_le_sum {r : Int → Nat} {y : Int} : ∀ {l : List Int}, y ∈ l → r y ≤ (l.map r).sum
  | z :: l, hy => by
    rw [List.map_cons, List.sum_cons]
    rcases List.mem_cons.1 hy with rfl | hy
    · omega
    · have := mem_le_sum (r := r) hy; omega
/-- A variable that has nothing gets a term in which it does not stand. -/
theorem Tri.bind (h : Tri ar b σ r) (hx : x < 0) (hb : b x = none) (ht : t.Ok ar) (hd : ∀ y ∈ t.flat, -48 ≤ y) (hn : x ∉ (t.sub σ).flat) :
    ∃ σ' r', Tri ar (setB b x t) σ' r' ∧ ∀ u : Tm, u.Ok ar → (u.sub σ').flat.length ≤ (u.sub σ).flat.length * (t.sub σ).flat.length := by
  classical
  obtain ⟨s, hs⟩ : ∃ s : Int → Tm, s = fun z => if z = x then t.sub σ else vr z := ⟨_, rfl⟩
  have sx : s x = t.sub σ := by rw [hs]; exact if_pos rfl
  have so : ∀ z, z ≠ x → s z = vr z := fun z hz => by rw [hs]; exact if_neg hz
  have tok : (t.sub σ).Ok ar := sub_ok h.sok t ht
  have sok : ∀ z, z < 0 → (s z).Ok ar := fun z hz => by
    by_cases e : z = x
    · rw [e, sx]; exact tok
    · rw [so z e]; exact vr_ok ar hz
  have σx : σ x = vr x := h.unb x hx hb
  have tid : (t.sub σ).sub s = t.sub σ := by
    conv => rhs; rw [← sub_id (t.sub σ) tok]
    exact sub_congr _ tok fun y hy _ => so y fun e => hn (e ▸ hy)
  have reach : ∀ (y : Int) (t' : Tm), b y = some t' → ∀ z ∈ t'.flat, z < 0 → ∀ q, q ∈ (σ z).flat → q ∈ (σ y).flat := fun y t' hy z hz h0 q hq => by
    rw [h.bnd y t' hy]; exact (mem_sub (h.ok y t' hy)).2 ⟨z, hz, .inl ⟨h0, hq⟩⟩
  have nreach : ∀ z ∈ t.flat, z < 0 → x ∉ (σ z).flat := fun z hz h0 hq => hn ((mem_sub ht).2 ⟨z, hz, .inl ⟨h0, hq⟩⟩)
  obtain ⟨M, hM⟩ : ∃ M, M = (t.flat.map r).sum + 1 := ⟨_, rfl⟩
  refine ⟨fun y => (σ y).sub s, fun y => if x ∈ (σ y).flat then r y + M else r y, ⟨?_, ?_, ?_, ?_, ?_, ?_, ?_, ?_⟩, ?_⟩
  · intro y t' hy
    by_cases e : y = x
    · rw [e]; exact hx
    · rw [setB_other e] at hy; exact h.neg y t' hy
  · intro y t' hy
    by_cases e : y = x
    · rw [e, setB_same] at hy; cases hy; exact ht
    · rw [setB_other e] at hy; exact h.ok y t' hy
  · intro y t' hy
    by_cases e : y = x
    · rw [e, setB_same] at hy; cases hy; exact hd
    · rw [setB_other e] at hy; exact h.dom y t' hy
  · intro y hy; exact sub_ok sok _ (h.sok y hy)
  · intro y t' hy
    show (σ y).sub s = t'.sub fun y => (σ y).sub s
    by_cases e : y = x
    · rw [e, setB_same] at hy; cases hy
      rw [e, σx, vr_sub hx, sx, ← sub_sub, tid]
    · rw [setB_other e] at hy
      rw [h.bnd y t' hy, sub_sub]
  · intro y t' hy z hz h0
    show (if x ∈ (σ z).flat then r z + M else r z) < (if x ∈ (σ y).flat then r y + M else r y)
    by_cases e : y = x
    · rw [e, setB_same] at hy; cases hy
      rw [if_neg (nreach z hz h0), e, σx, vr_flat, if_pos (by simp), hM]
      have := mem_le_sum (r := r) hz; omega
    · rw [setB_other e] at hy
      have h1 := h.lt y t' hy z hz h0
      by_cases h2 : x ∈ (σ z).flat
      · rw [if_pos h2, if_pos (reach y t' hy z hz h0 x h2)]; omega
      · rw [if_neg h2]
        by_cases h3 : x ∈ (σ y).flat
        · rw [if_pos h3]; omega
        · rw [if_neg h3]; exact h1
  · intro y hy hn'
    show (σ y).sub s = vr y
    by_cases e : y = x
    · rw [e, setB_same] at hn'; cases hn'
    · rw [setB_other e] at hn'
      rw [h.unb y hy hn', vr_sub hy, so y e]
  · intro y hy z hz h0
    obtain ⟨q, hq, ⟨h1, h2⟩ | ⟨h1, h2⟩⟩ := (mem_sub (h.sok y hy)).1 hz
    · by_cases e : q = x
      · rw [e, sx] at h2
        have : z ≠ x := fun e => hn (e ▸ h2)
        rw [setB_other this]; exact h.free ht h2 h0
      · rw [so q e, vr_flat, List.mem_singleton] at h2
        subst h2
        rw [setB_other e]; exact h.fin y hy z hq h0
    · subst h2; exact absurd h0 h1
  · intro u hu
    rw [← sub_sub, flat_sub' s (u.sub σ) (sub_ok h.sok u hu)]
    refine fill_len_le (flat_pos _) fun y hy h0 => ?_
    by_cases e : y = x
    · rw [e, sx]; exact Nat.le_refl _
    · rw [so y e, vr_flat]; exact flat_pos _
theorem sol_bind (hb : b x = none) : Sol θ (setB b x t) ↔ Sol θ b ∧ θ x = t.sub θ := by
  constructor
  · intro h
    refine ⟨fun y t' hy => h y t' ?_, h x t (setB_same _ _ _)⟩
    rw [setB_other fun e => by rw [e, hb] at hy; cases hy]; exact hy
  · rintro ⟨h1, h2⟩ y t' hy
    by_cases e : y = x
    · rw [e, setB_same] at hy; cases hy; rw [e]; exact h2
    · rw [setB_other e] at hy; exact h1 y t' hy
/-- A variable never becomes a greater term in which it stands. -/
theorem Tri.occ (h : Tri ar b σ r) (hx : x < 0) {f : Int} {as : List Tm} (hf : ¬ f < 0) (ht : (Tm.node f as).Ok ar) (hm : x ∈ ((Tm.node f as).sub σ).flat) (hs : Sol θ b) : θ x ≠ (Tm.node f as).sub θ := by
  intro e
  have h1 : (θ x).flat.length < ((Tm.node f as).sub θ).flat.length := by
    rw [← h.full hs ht, sub_sym hf, sub_sym hf, flat_node, List.length_cons]
    have hl : OkL ar (subL σ as) := subL_ok h.sok as (Ok_node.1 ht).2
    rw [flatL_sub θ _ hl]
    rw [sub_sym hf, flat_node] at hm
    rcases List.mem_cons.1 hm with e | hm
    · omega
    · have := fill_len_ge (h := fun y => (θ y).flat) hx hm
      show (θ x).flat.length < _
      omega
  rw [e] at h1; omega
end
/-- How many variables have nothing. -/
def cnt (b : Int → Option Tm) : Nat := ((List.range 48).filter fun k : Nat => (b (-1 - (k : Int))).isNone).length
theorem filter_lt {α : Type} {p q : α → Bool} {a : α} (hpq : ∀ c, p c = true → q c = true) (h1 : q a = true) (h2 : p a = false) : ∀ {l : List α}, a ∈ l → (l.filter p).length < (l.filter q).length
  | c :: l, hm => by
    have hle : ∀ l : List α, (l.filter p).length ≤ (l.filter q).length := by
      intro l
      induction l with
      | nil => exact Nat.le_refl _
      | cons d l ih =>
        rw [List.filter_cons, List.filter_cons]
        by_cases hp : p d = true
        · rw [if_pos hp, if_pos (hpq d hp)]; simp only [List.length_cons]; omega
        · rw [if_neg hp]
          by_cases hq : q d = true
          · rw [if_pos hq]; simp only [List.length_cons]; omega
          · rw [if_neg hq]; exact ih
    rw [List.filter_cons, List.filter_cons]
    rcases List.mem_cons.1 hm with rfl | hm
    · rw [if_neg (by rw [h2]; decide), if_pos h1]; simp only [List.length_cons]
      have := hle l; omega
    · have ih := filter_lt hpq h1 h2 hm
      by_cases hp : p c = true
      · rw [if_pos hp, if_pos (hpq c hp)]; simp only [List.length_cons]; omega
      · rw [if_neg hp]
        by_cases hq : q c = true
        · rw [if_pos hq]; simp only [List.length_cons]; omega
        · rw [if_neg hq]; exact ih
theorem cnt_set {b : Int → Option Tm} {x : Int} {t : Tm} (hx : x < 0) (h48 : -48 ≤ x) (hb : b x = none) : cnt (setB b x t) < cnt b := by
  unfold cnt
  refine filter_lt (a := (-1 - x).toNat) (fun k hk => ?_) ?_ ?_ (List.mem_range.2 (by omega))
  · unfold setB at hk
    by_cases e : -1 - (k : Int) = x
    · rw [if_pos e] at hk; cases hk
    · rw [if_neg e] at hk; exact hk
  · rw [show (-1 - ((-1 - x).toNat : Int)) = x by omega, hb]; rfl
  · rw [show (-1 - ((-1 - x).toNat : Int)) = x by omega, setB_same]; rfl

/-- Arguments of one symbol. -/
theorem args_sub {θ : Int → Tm} {f : Int} {as bs : List Tm} (hf : ¬ f < 0) (hl : as.length = bs.length) :
    (Tm.node f as).sub θ = (Tm.node f bs).sub θ ↔ ∀ (j : Nat) (a c : Tm), as[j]? = some a → bs[j]? = some c → a.sub θ = c.sub θ := by
  rw [sub_sym hf, sub_sym hf, subL_map, subL_map]
  constructor
  · intro h j a c ha hc
    injection h with _ h
    have h1 : (as.map (Tm.sub θ))[j]? = (bs.map (Tm.sub θ))[j]? := by rw [h]
    rw [List.getElem?_map, List.getElem?_map, ha, hc] at h1
    exact Option.some.inj h1
  · intro h
    congr 1
    apply List.ext_getElem?
    intro j
    rw [List.getElem?_map, List.getElem?_map]
    rcases Nat.lt_or_ge j as.length with hj | hj
    · rw [List.getElem?_eq_getElem hj, List.getElem?_eq_getElem (hl ▸ hj)]
      exact congrArg some (h j _ _ (List.getElem?_eq_getElem hj) (List.getElem?_eq_getElem (hl ▸ hj)))
    · rw [List.getElem?_eq_none hj, List.getElem?_eq_none (hl ▸ hj)]
theorem clash_sub {θ : Int → Tm} {f g : Int} {as bs : List Tm} (hf : ¬ f < 0) (hg : ¬ g < 0) (h : f ≠ g) : (Tm.node f as).sub θ ≠ (Tm.node g bs).sub θ := by
  rw [sub_sym hf, sub_sym hg]
  intro e; injection e with e _; exact h e

/-- Two terms can be made one. -/
noncomputable def uniB (s t : Tm) : Bool := @decide (∃ θ : Int → Tm, s.sub θ = t.sub θ) (Classical.propDecidable _)
theorem uniB_t {s t : Tm} {θ : Int → Tm} (h : s.sub θ = t.sub θ) : uniB s t = true := by simp only [uniB, decide_eq_true_eq]; exact ⟨θ, h⟩
theorem uniB_f {s t : Tm} (h : ∀ θ : Int → Tm, s.sub θ ≠ t.sub θ) : uniB s t = false := by simp only [uniB, decide_eq_false_iff_not]; rintro ⟨θ, e⟩; exact h θ e

/-- A term is told of by what is marked: the variable does not stand in it, and each of its variables is marked or has nothing. -/
def Dn (b : Int → Option Tm) (x : Int) (m : Int → Bool) (t : Tm) : Prop := ∀ y ∈ t.flat, y ≠ x ∧ (y < 0 → b y = none ∨ m y = true)
/-- Where all that is marked is told of, the variable is not reached. -/
theorem Tri.clo {ar : List Int} {b : Int → Option Tm} {σ : Int → Tm} {r : Int → Nat} (h : Tri ar b σ r) {x : Int} (hx : x < 0) {m : Int → Bool} (hm : ∀ y t, m y = true → b y = some t → Dn b x m t) {t : Tm} (ht : t.Ok ar) (hd : Dn b x m t) : x ∉ (t.sub σ).flat := by
  have key : ∀ n (y : Int), r y < n → y < 0 → y ≠ x → (b y = none ∨ m y = true) → x ∉ (σ y).flat := by
    intro n
    induction n with
    | zero => intro y hn; omega
    | succ n ih =>
      intro y hn hy hyx hor hq
      rcases hb : b y with _ | t'
      · rw [h.unb y hy hb, vr_flat, List.mem_singleton] at hq; exact hyx hq.symm
      · have hmy : m y = true := by rcases hor with e | e; (rw [hb] at e; cases e); exact e
        rw [h.bnd y t' hb] at hq
        obtain ⟨z, hz, ⟨h1, h2⟩ | ⟨h1, h2⟩⟩ := (mem_sub (h.ok y t' hb)).1 hq
        · obtain ⟨h3, h4⟩ := hm y t' hmy hb z hz
          exact ih z (by have := h.lt y t' hb z hz h1; omega) h1 h3 (h4 h1) h2
        · subst h2; exact h1 hx
  intro hq
  obtain ⟨z, hz, ⟨h1, h2⟩ | ⟨h1, h2⟩⟩ := (mem_sub ht).1 hq
  · obtain ⟨h3, h4⟩ := hd z hz
    exact key _ z (Nat.lt_succ_self _) h1 h3 (h4 h1) h2
  · subst h2; exact h1 hx
/-- How many variables are not marked. -/
def ucnt (m : Int → Bool) : Nat := ((List.range 48).filter fun k : Nat => !m (-1 - (k : Int))).length
def setM (m : Int → Bool) (x : Int) : Int → Bool := fun y => if y = x then true else m y
theorem setM_same (m : Int → Bool) (x : Int) : setM m x x = true := if_pos rfl
theorem setM_other {m : Int → Bool} {x y : Int} (h : y ≠ x) : setM m x y = m y := if_neg h
theorem setM_le {m : Int → Bool} {x y : Int} (h : m y = true) : setM m x y = true := by unfold setM; by_cases e : y = x; (rw [if_pos e]); rw [if_neg e]; exact h
theorem ucnt_set {m : Int → Bool} {x : Int} (hx : x < 0) (h48 : -48 ≤ x) (hm : m x = false) : ucnt (setM m x) < ucnt m := by
  unfold ucnt
  refine filter_lt (a := (-1 - x).toNat) (fun k hk => ?_) ?_ ?_ (List.mem_range.2 (by omega))
  · unfold setM at hk
    by_cases e : -1 - (k : Int) = x
    · rw [if_pos e] at hk; cases hk
    · rw [if_neg e] at hk; exact hk
  · rw [show (-1 - ((-1 - x).toNat : Int)) = x by omega, hm]; rfl
  · rw [show (-1 - ((-1 - x).toNat : Int)) = x by omega, setM_same]; rfl

/-- Rounds to come at most: so many variables that have nothing, so long all that is left. -/
def muU : Nat → Nat → Nat
  | 0, S => S
  | c + 1, S => S + 1 + muU c (S * S)
theorem muU_lt : ∀ {c S S' : Nat}, S < S' → muU c S < muU c S'
  | 0, S, S', h => h
  | c + 1, S, S', h => by
    have h1 : S * S < S' * S' := Nat.mul_lt_mul_of_lt_of_lt h h
    have := muU_lt (c := c) h1
    simp only [muU]; omega
theorem muU_le {c S S' : Nat} (h : S ≤ S') : muU c S ≤ muU c S' := by
  rcases Nat.lt_or_ge S S' with h1 | h1
  · exact Nat.le_of_lt (muU_lt h1)
  · rw [Nat.le_antisymm h h1]; exact Nat.le_refl _
theorem muU_succ (c S : Nat) (hS : 1 ≤ S) : muU c S ≤ muU (c + 1) S := by
  have h1 : S ≤ S * S := Nat.le_mul_of_pos_left S hS
  have := muU_le (c := c) h1
  simp only [muU]; omega
theorem muU_mono {S : Nat} (hS : 1 ≤ S) : ∀ {c c' : Nat}, c ≤ c' → muU c S ≤ muU c' S
  | c, 0, h => by obtain rfl : c = 0 := by omega
                  exact Nat.le_refl _
  | c, c' + 1, h => by
    rcases Nat.lt_or_ge c (c' + 1) with h1 | h1
    · exact Nat.le_trans (muU_mono hS (by omega)) (muU_succ c' S hS)
    · rw [Nat.le_antisymm h h1]; exact Nat.le_refl _
theorem muU_bind {c c' S S' : Nat} (hS : 1 ≤ S) (hc : c' < c) (h : S' ≤ S * S) : muU c' S' < muU c S := by
  obtain ⟨k, rfl⟩ : ∃ k, c = k + 1 := ⟨c - 1, by omega⟩
  have h1 := muU_le (c := c') h
  have h2 := muU_mono (S := S * S) (Nat.mul_pos hS hS) (c := c') (c' := k) (by omega)
  simp only [muU]; omega

/-! Plain: the reference's way of making two terms one: a stack of pairs, how long it gets; a search by a list of what is to come. -/
/-- What a term leads to by what variables have. -/
inductive Lead (b : Int → Option Tm) : Tm → Tm → Prop
  | here (u : Tm) : Lead b u u
  | var {x : Int} {t v : Tm} : x < 0 → b x = some t → Lead b t v → Lead b (vr x) v
theorem Lead.snoc {b : Int → Option Tm} {u v t : Tm} {x : Int} (h : Lead b u v) : v = vr x → x < 0 → b x = some t → Lead b u t := by
  induction h with
  | here u => intro e hx hb; subst e; exact .var hx hb (.here _)
  | var h1 h2 _ ih => intro e hx hb; exact .var h1 h2 (ih e hx hb)
theorem Lead.mono {b b' : Int → Option Tm} (hm : ∀ x t, b x = some t → b' x = some t) {u v : Tm} (h : Lead b u v) : Lead b' u v := by
  induction h with
  | here u => exact .here u
  | var h1 h2 _ ih => exact .var h1 (hm _ _ h2) ih
theorem setB_mono {b : Int → Option Tm} {x : Int} {t : Tm} (hb : b x = none) : ∀ y u, b y = some u → setB b x t y = some u := fun y u h => by
  rw [setB_other fun e => by rw [e, hb] at h; cases h]; exact h
theorem Lead.size {b : Int → Option Tm} (h60 : ∀ x t, b x = some t → t.flat.length ≤ 60) {u v : Tm} (h : Lead b u v) : u.flat.length ≤ 60 → v.flat.length ≤ 60 := by
  induction h with
  | here u => exact fun h => h
  | var _ h2 _ ih => exact fun _ => ih (h60 _ _ h2)
def kids : Tm → List Tm
  | .node _ us => us
theorem kids_node (x : Int) (us : List Tm) : kids (.node x us) = us := rfl
/-- From a term to what an argument of it leads to. -/
def StepU (b : Int → Option Tm) (n n' : Tm) : Prop := ∃ c ∈ kids n, Lead b c n'
theorem StepU.mono {b b' : Int → Option Tm} (hm : ∀ x t, b x = some t → b' x = some t) {n n' : Tm} (h : StepU b n n') : StepU b' n n' := by
  obtain ⟨c, h1, h2⟩ := h; exact ⟨c, h1, h2.mono hm⟩

/-- A rank of at most 48. -/
def rk (r : Int → Nat) (x : Int) : Nat := ((List.range 48).filter fun k : Nat => decide (r (-1 - (k : Int)) < r x)).length
theorem rk_le (r : Int → Nat) (x : Int) : rk r x ≤ 48 := by
  unfold rk
  refine Nat.le_trans (List.length_filter_le _ _) ?_
  simp
theorem rk_lt {r : Int → Nat} {x y : Int} (hy : y < 0) (h48 : -48 ≤ y) (h : r y < r x) : rk r y < rk r x := by
  unfold rk
  refine filter_lt (a := (-1 - y).toNat) (fun k hk => ?_) ?_ ?_ (List.mem_range.2 (by omega))
  · simp only [decide_eq_true_eq] at hk ⊢; omega
  · rw [show (-1 - ((-1 - y).toNat : Int)) = y by omega]; simpa using h
  · rw [show (-1 - ((-1 - y).toNat : Int)) = y by omega]; simp
/-- The greatest rank of what stands in a list, and 1. -/
def mx (r : Int → Nat) : List Int → Nat
  | [] => 0
  | y :: l => max (if y < 0 then rk r y + 1 else 0) (mx r l)
theorem mx_mem {r : Int → Nat} {y : Int} (hy : y < 0) : ∀ {l : List Int}, y ∈ l → rk r y + 1 ≤ mx r l
  | z :: l, h => by
    simp only [mx]
    rcases List.mem_cons.1 h with rfl | h
    · rw [if_pos hy]; exact Nat.le_max_left _ _
    · exact Nat.le_trans (mx_mem hy h) (Nat.le_max_right _ _)
theorem mx_le {r : Int → Nat} {M : Nat} : ∀ {l : List Int}, (∀ y ∈ l, y < 0 → rk r y + 1 ≤ M) → mx r l ≤ M
  | [], _ => Nat.zero_le _
  | z :: l, h => by
    simp only [mx]
    refine Nat.max_le.2 ⟨?_, mx_le fun y hy => h y (List.mem_cons_of_mem _ hy)⟩
    by_cases h0 : z < 0
    · rw [if_pos h0]; exact h z List.mem_cons_self h0
    · rw [if_neg h0]; omega
def dm (r : Int → Nat) (u : Tm) : Nat := 61 * mx r u.flat + u.flat.length
theorem dm_le {r : Int → Nat} {u : Tm} (h : u.flat.length ≤ 60) : dm r u ≤ 3049 := by
  unfold dm
  have := mx_le (r := r) (M := 49) (l := u.flat) (fun y _ _ => by have := rk_le r y; omega)
  omega
section
variable {ar : List Int} {b : Int → Option Tm} {σ : Int → Tm} {r : Int → Nat}
theorem Tri.lead (h : Tri ar b σ r) {u v : Tm} (hl : Lead b u v) : ∀ ρ, (∀ y ∈ u.flat, y < 0 → rk r y < ρ) → ∀ y ∈ v.flat, y < 0 → rk r y < ρ := by
  induction hl with
  | here u => exact fun _ h => h
  | @var x t v h1 h2 _ ih =>
    intro ρ hu
    refine ih ρ fun y hy h0 => ?_
    have h3 := hu x (by rw [vr_flat]; simp) h1
    have := rk_lt h0 (h.dom x t h2 y hy) (h.lt x t h2 y hy h0)
    omega
theorem mem_flatS {us : List Tm} {a : Tm} (h : a ∈ us) : ∀ y ∈ a.flat, y ∈ flatL us := by
  induction us with
  | nil => cases h
  | cons c us ih =>
    intro y hy
    rw [flatL_cons]
    rcases List.mem_cons.1 h with rfl | h
    · exact List.mem_append_left _ hy
    · exact List.mem_append_right _ (ih h y hy)
theorem kid_mem {n c : Tm} (hc : c ∈ kids n) : (∀ y ∈ c.flat, y ∈ n.flat) ∧ c.flat.length < n.flat.length := by
  obtain ⟨x, us⟩ := n
  have hc : c ∈ us := hc
  rw [flat_node, List.length_cons]
  exact ⟨fun y hy => List.mem_cons_of_mem _ (mem_flatS hc y hy), by have := mem_flatL_len hc; omega⟩
theorem Tri.step_dm (h : Tri ar b σ r) (h60 : ∀ x t, b x = some t → t.flat.length ≤ 60) {n n' : Tm} (hs : StepU b n n') : dm r n' < dm r n := by
  obtain ⟨c, hc, hl⟩ := hs
  obtain ⟨h1, h2⟩ := kid_mem hc
  unfold dm
  cases hl with
  | here =>
    have := mx_le (r := r) (M := mx r n.flat) (l := n'.flat) (fun y hy h0 => mx_mem h0 (h1 y hy))
    omega
  | @var x t _ h3 h4 h5 =>
    have h6 := mx_mem (r := r) h3 (h1 x (by rw [vr_flat]; simp))
    have h7 := mx_le (r := r) (M := rk r x) (l := n'.flat) (fun y hy h0 => h.lead h5 (rk r x) (fun z hz hz0 => rk_lt hz0 (h.dom x t h4 z hz) (h.lt x t h4 z hz hz0)) y hy h0)
    have h8 := h5.size h60 (h60 x t h4)
    omega
end
/-- A stack, and the terms whose arguments it holds. -/
inductive Stk (b : Int → Option Tm) : List Tm → List Tm → Prop
  | root {L : List Tm} : L.length ≤ 1 → Stk b [] L
  | push {n : Tm} {ch L G : List Tm} : Stk b ch L → (∀ n', ch.head? = some n' → StepU b n' n) → n.flat.length ≤ 60 → G.length ≤ 3 → (∀ e ∈ G, e ∈ kids n) → Stk b (n :: ch) (L ++ G)
theorem Stk.mono {b b' : Int → Option Tm} (hm : ∀ x t, b x = some t → b' x = some t) {ch L : List Tm} (h : Stk b ch L) : Stk b' ch L := by
  induction h with
  | root h => exact .root h
  | push _ h1 h2 h3 h4 ih => exact .push ih (fun n' e => (h1 n' e).mono hm) h2 h3 h4
theorem Stk.pop' {b : Int → Option Tm} {ch X : List Tm} (h : Stk b ch X) : ∀ (L : List Tm) (e : Tm), X = L ++ [e] → ∃ ch', Stk b ch' L ∧ ∀ n', ch'.head? = some n' → e ∈ kids n' := by
  induction h with
  | root h =>
    intro L e hX
    subst hX
    refine ⟨[], .root (by simp only [List.length_append, List.length_cons, List.length_nil] at h; omega), fun n' h => by cases h⟩
  | @push n ch L0 G h h1 h2 h3 h4 ih =>
    intro L e hX
    rcases List.eq_nil_or_concat G with rfl | ⟨G', e', rfl⟩
    · rw [List.append_nil] at hX; exact ih L e hX
    · rw [List.concat_eq_append, ← List.append_assoc] at hX
      obtain ⟨e1, e2⟩ := List.append_inj' hX rfl
      cases e2
      refine ⟨n :: ch, ?_, fun n' e => by cases e; exact h4 _ (by simp)⟩
      rw [← e1]
      exact .push h h1 h2 (by simp at h3; omega) (fun e he => h4 e (by simp [he]))
theorem Stk.pop {b : Int → Option Tm} {ch L : List Tm} {e : Tm} (h : Stk b ch (L ++ [e])) : ∃ ch', Stk b ch' L ∧ ∀ n', ch'.head? = some n' → e ∈ kids n' := h.pop' L e rfl
theorem Stk.len {b : Int → Option Tm} {ch L : List Tm} (h : Stk b ch L) : L.length ≤ 1 + 3 * ch.length := by
  induction h with
  | root h => simpa using h
  | push _ _ _ h3 _ ih => simp only [List.length_append, List.length_cons]; omega
theorem Stk.short {ar : List Int} {b : Int → Option Tm} {σ : Int → Tm} {r : Int → Nat} (hT : Tri ar b σ r) (h60 : ∀ x t, b x = some t → t.flat.length ≤ 60) {ch L : List Tm} (h : Stk b ch L) : L.length ≤ 9151 := by
  have key : ch.length ≤ 3050 ∧ ∀ n, ch.head? = some n → ch.length + dm r n ≤ 3050 := by
    induction h with
    | root h => exact ⟨by simp, fun n h => by cases h⟩
    | @push n ch L G h h1 h2 h3 h4 ih =>
      have h5 : ∀ m, (n :: ch).head? = some m → (n :: ch).length + dm r m ≤ 3050 := by
        intro m e
        cases e
        cases ch with
        | nil => have := dm_le (r := r) h2; simp only [List.length_cons, List.length_nil]; omega
        | cons n' ch =>
          have h6 := ih.2 n' rfl
          have h7 := hT.step_dm h60 (h1 n' rfl)
          simp only [List.length_cons] at h6 ⊢; omega
      refine ⟨?_, h5⟩
      have := h5 n rfl; omega
  have := h.len
  omega

/-- The sizes of what is to be made one, filled to the end. -/
def szU (σ : Int → Tm) (L : List Tm) : Nat := (L.map fun u => (u.sub σ).flat.length).sum
theorem szU_append (σ : Int → Tm) (L M : List Tm) : szU σ (L ++ M) = szU σ L + szU σ M := by unfold szU; simp
theorem szU_one (σ : Int → Tm) (u : Tm) : szU σ [u] = (u.sub σ).flat.length := by unfold szU; simp
theorem szU_le {σ σ' : Int → Tm} {M : Nat} : ∀ {L : List Tm}, (∀ u ∈ L, (u.sub σ').flat.length ≤ (u.sub σ).flat.length * M) → szU σ' L ≤ szU σ L * M
  | [], _ => by simp [szU]
  | u :: L, h => by
    have h1 := h u List.mem_cons_self
    have h2 := szU_le fun v hv => h v (List.mem_cons_of_mem _ hv)
    unfold szU at h2 ⊢
    simp only [List.map_cons, List.sum_cons]
    rw [Nat.add_mul]; omega
theorem szU_args {σ : Int → Tm} {x : Int} {us : List Tm} (hx : ¬ x < 0) : szU σ us < ((Tm.node x us).sub σ).flat.length := by
  rw [sub_sym hx, flat_node, List.length_cons]
  have : szU σ us = (flatL (subL σ us)).length := by
    induction us with
    | nil => rw [subL_nil, flatL_nil]; rfl
    | cons u us ih => rw [subL_cons, flatL_cons, List.length_append, ← ih]; unfold szU; simp
  omega
/-- All pairs are made one. -/
def AllEq (θ : Int → Tm) (L R : List Tm) : Prop := L.map (Tm.sub θ) = R.map (Tm.sub θ)
theorem allEq_pop {θ : Int → Tm} {L R : List Tm} {u v : Tm} (h : L.length = R.length) : AllEq θ (L ++ [u]) (R ++ [v]) ↔ AllEq θ L R ∧ u.sub θ = v.sub θ := by
  unfold AllEq
  rw [List.map_append, List.map_append]
  constructor
  · intro e
    obtain ⟨e1, e2⟩ := List.append_inj e (by simp [h])
    exact ⟨e1, by simpa using e2⟩
  · rintro ⟨e1, e2⟩
    rw [e1]; simp [e2]
theorem allEq_append {θ : Int → Tm} {L R L' R' : List Tm} (h : L.length = R.length) : AllEq θ (L ++ L') (R ++ R') ↔ AllEq θ L R ∧ AllEq θ L' R' := by
  unfold AllEq
  rw [List.map_append, List.map_append]
  constructor
  · intro e
    exact List.append_inj e (by simp [h])
  · rintro ⟨e1, e2⟩
    rw [e1, e2]
theorem allEq_args {θ : Int → Tm} {x : Int} {us ss : List Tm} (hx : ¬ x < 0) : AllEq θ us ss ↔ (Tm.node x us).sub θ = (Tm.node x ss).sub θ := by
  unfold AllEq
  rw [sub_sym hx, sub_sym hx, subL_map, subL_map]
  constructor
  · intro e; rw [e]
  · intro e; injection e

/-- What is marked is to come or told of; what is to come matters. -/
structure OccI (ar : List Int) (b : Int → Option Tm) (σ : Int → Tm) (x : Int) (t : Tm) (m : Int → Bool) (todo : List Tm) : Prop where
  mr : ∀ y u, m y = true → b y = some u → u ∈ todo ∨ Dn b x m u
  st : t ∈ todo ∨ Dn b x m t
  ok : ∀ u ∈ todo, u.Ok ar ∧ ∀ y ∈ u.flat, -48 ≤ y
  so : ∀ u ∈ todo, x ∈ (u.sub σ).flat → x ∈ (t.sub σ).flat
  ln : todo.length + ucnt m ≤ 49
/-- The same inside of a term, told of up to a place. -/
structure OccJ (ar : List Int) (b : Int → Option Tm) (σ : Int → Tm) (x : Int) (t : Tm) (m : Int → Bool) (todo : List Tm) (u : Tm) (k : Nat) : Prop where
  mr : ∀ y v, m y = true → b y = some v → v ∈ todo ∨ v = u ∨ Dn b x m v
  st : t ∈ todo ∨ t = u ∨ Dn b x m t
  ok : ∀ v ∈ todo, v.Ok ar ∧ ∀ y ∈ v.flat, -48 ≤ y
  so : ∀ v ∈ todo, x ∈ (v.sub σ).flat → x ∈ (t.sub σ).flat
  ln : todo.length + ucnt m ≤ 48
  up : ∀ (j : Nat) (y : Int), j < k → u.flat[j]? = some y → y ≠ x ∧ (y < 0 → b y = none ∨ m y = true)
section
variable {ar : List Int} {b : Int → Option Tm} {σ : Int → Tm} {r : Int → Nat} {x : Int} {t u : Tm} {m : Int → Bool} {todo : List Tm} {k : Nat}
theorem ucnt_all : ucnt (fun _ => false) = 48 := by decide
theorem OccI.start (ht : t.Ok ar) (hd : ∀ y ∈ t.flat, -48 ≤ y) : OccI ar b σ x t (fun _ => false) [t] :=
  ⟨(fun y u h => nomatch h), .inl (by simp), fun u hu => by simp at hu; subst hu; exact ⟨ht, hd⟩, fun u hu => by simp at hu; subst hu; exact id, by rw [ucnt_all]; simp⟩
theorem OccI.done (h : Tri ar b σ r) (hx : x < 0) (ht : t.Ok ar) (hI : OccI ar b σ x t m []) : x ∉ (t.sub σ).flat :=
  h.clo hx (fun y u hm hb => (hI.mr y u hm hb).resolve_left (by simp)) ht (hI.st.resolve_left (by simp))
theorem OccI.take (h : OccI ar b σ x t m (todo ++ [u])) : OccJ ar b σ x t m todo u 0 :=
  ⟨fun y v hm hb => by rcases h.mr y v hm hb with h1 | h1; (rcases List.mem_append.1 h1 with h2 | h2; (exact .inl h2); (simp at h2; exact .inr (.inl h2))); exact .inr (.inr h1), by rcases h.st with h1 | h1; (rcases List.mem_append.1 h1 with h2 | h2; (exact .inl h2); (simp at h2; exact .inr (.inl h2))); exact .inr (.inr h1), fun v hv => h.ok v (by simp [hv]), fun v hv => h.so v (by simp [hv]), by have := h.ln; simp at this; omega, fun j y hj => by omega⟩
theorem OccJ.skip {y : Int} (h : OccJ ar b σ x t m todo u k) (hy : u.flat[k]? = some y) (h1 : y ≠ x) (h2 : y < 0 → b y = none ∨ m y = true) : OccJ ar b σ x t m todo u (k + 1) :=
  ⟨h.mr, h.st, h.ok, h.so, h.ln, fun j z hj hz => by
    rcases Nat.lt_or_ge j k with e | e
    · exact h.up j z e hz
    · obtain rfl : j = k := by omega
      rw [hy] at hz; cases hz; exact ⟨h1, h2⟩⟩
theorem OccJ.push {y : Int} {v : Tm} (h : OccJ ar b σ x t m todo u k) (hT : Tri ar b σ r) (hu : u.Ok ar) (hux : x ∈ (u.sub σ).flat → x ∈ (t.sub σ).flat) (hy : u.flat[k]? = some y) (h1 : y ≠ x) (hy0 : y < 0) (h48 : -48 ≤ y) (hm : m y = false) (hb : b y = some v) : OccJ ar b σ x t (setM m y) (todo ++ [v]) u (k + 1) := by
  have hd : ∀ w : Tm, Dn b x m w → Dn b x (setM m y) w := fun w hw z hz => ⟨(hw z hz).1, fun h0 => ((hw z hz).2 h0).imp id (fun e => setM_le e)⟩
  refine ⟨fun z w hz hbz => ?_, ?_, fun w hw => ?_, fun w hw => ?_, ?_, fun j z hj hz => ?_⟩
  · by_cases e : z = y
    · subst e; rw [hb] at hbz; cases hbz; exact .inl (by simp)
    · rw [setM_other e] at hz
      rcases h.mr z w hz hbz with h3 | h3 | h3
      · exact .inl (by simp [h3])
      · exact .inr (.inl h3)
      · exact .inr (.inr (hd w h3))
  · rcases h.st with h3 | h3 | h3
    · exact .inl (by simp [h3])
    · exact .inr (.inl h3)
    · exact .inr (.inr (hd t h3))
  · rcases List.mem_append.1 hw with hw | hw
    · exact h.ok w hw
    · simp at hw; subst hw; exact ⟨hT.ok y _ hb, hT.dom y _ hb⟩
  · rcases List.mem_append.1 hw with hw | hw
    · exact h.so w hw
    · simp at hw; subst hw
      exact fun hq => hux ((mem_sub hu).2 ⟨y, List.mem_of_getElem? hy, .inl ⟨hy0, by rw [hT.bnd y _ hb]; exact hq⟩⟩)
  · have := ucnt_set hy0 h48 hm
    have := h.ln
    simp; omega
  · by_cases e : j = k
    · subst e; rw [hy] at hz; cases hz; exact ⟨h1, fun _ => .inr (setM_same _ _)⟩
    · obtain ⟨h3, h4⟩ := h.up j z (by omega) hz
      exact ⟨h3, fun h0 => (h4 h0).imp id (fun e => setM_le e)⟩
theorem OccJ.all (h : OccJ ar b σ x t m todo u u.flat.length) : OccI ar b σ x t m todo := by
  have hu : Dn b x m u := fun y hy => by
    obtain ⟨j, hj, e⟩ := List.mem_iff_getElem.1 hy
    exact h.up j y hj (by rw [List.getElem?_eq_getElem hj, e])
  refine ⟨fun y v hm hb => ?_, ?_, h.ok, h.so, by have := h.ln; omega⟩
  · rcases h.mr y v hm hb with h3 | h3 | h3
    · exact .inl h3
    · subst h3; exact .inr hu
    · exact .inr h3
  · rcases h.st with h3 | h3 | h3
    · exact .inl h3
    · subst h3; exact .inr hu
    · exact .inr h3
theorem occ_here (hT : Tri ar b σ r) (hx : x < 0) (hbx : b x = none) (hu : u.Ok ar) (hm : x ∈ u.flat) : x ∈ (u.sub σ).flat :=
  (mem_sub hu).2 ⟨x, hm, .inl ⟨hx, by rw [hT.unb x hx hbx, vr_flat]; simp⟩⟩
end

/-! Plain: the steps of making two terms one by a stack of pairs. -/
/-- What is left to be made one. -/
structure MeetS (ar : List Int) (b : Int → Option Tm) (σ : Int → Tm) (r : Int → Nat) (ch : List Tm) (s t : Tm) (L R : List Tm) : Prop where
  tri : Tri ar b σ r
  h60 : ∀ x t, b x = some t → t.flat.length ≤ 60
  stk : Stk b ch L
  len : L.length = R.length
  l60 : ∀ u ∈ L, u.flat.length ≤ 60
  r60 : ∀ u ∈ R, u.flat.length ≤ 60
  sol : ∀ θ, (Sol θ b ∧ AllEq θ L R) ↔ s.sub θ = t.sub θ
def meas (b : Int → Option Tm) (σ : Int → Tm) (L R : List Tm) : Nat := muU (cnt b) (szU σ L + szU σ R)
/-- A term and what it leads to. -/
structure HeadU (b : Int → Option Tm) (u h : Tm) (x : Int) : Prop where
  rt : ∀ θ, Sol θ b → u.sub θ = h.sub θ
  ld : Lead b u h
  fr : x < 0 → b x = none
section
variable {ar : List Int} {b : Int → Option Tm} {σ : Int → Tm} {r : Int → Nat} {ch : List Tm} {s t u v : Tm} {L R : List Tm} {x y : Int} {us ss : List Tm}
theorem MeetS.start (hs : s.flat.length ≤ 60) (ht : t.flat.length ≤ 60) : MeetS ar (fun _ => none) vr (fun _ => 0) [] s t [s] [t] :=
  ⟨Tri.start ar, (fun _ _ h => nomatch h), .root (by simp), rfl, fun u hu => by simp at hu; subst hu; exact hs, fun u hu => by simp at hu; subst hu; exact ht, fun θ => by
    unfold AllEq
    constructor
    · rintro ⟨_, h⟩; simpa using h
    · intro h; exact ⟨(fun _ _ h => nomatch h), by simp [h]⟩⟩
theorem MeetS.done (h : MeetS ar b σ r ch s t [] []) : uniB s t = true := uniB_t ((h.sol σ).1 ⟨h.tri.sol, rfl⟩)
theorem MeetS.short (h : MeetS ar b σ r ch s t L R) : L.length ≤ 9151 := h.stk.short h.tri h.h60
theorem MeetS.pop (h : MeetS ar b σ r ch s t (L ++ [u]) (R ++ [v])) : L.length = R.length := by have := h.len; simp at this; exact this
theorem MeetS.no (h : MeetS ar b σ r ch s t (L ++ [u]) (R ++ [v])) (hn : ∀ θ, Sol θ b → u.sub θ ≠ v.sub θ) : uniB s t = false :=
  uniB_f fun θ e => by
    obtain ⟨h1, h2⟩ := (h.sol θ).2 e
    exact hn θ h1 ((allEq_pop h.pop).1 h2).2
theorem MeetS.clash (h : MeetS ar b σ r ch s t (L ++ [u]) (R ++ [v])) (hu : HeadU b u (.node x us) x) (hv : HeadU b v (.node y ss) y) (hx : ¬ x < 0) (hy : ¬ y < 0) (hxy : x ≠ y) : uniB s t = false :=
  h.no fun θ hθ e => clash_sub hx hy hxy (by rw [← hu.rt θ hθ, ← hv.rt θ hθ]; exact e)
theorem MeetS.occL (h : MeetS ar b σ r ch s t (L ++ [u]) (R ++ [v])) (hu : HeadU b u (.node x us) x) (hv : HeadU b v (.node y ss) y) (ou : (Tm.node x us).Ok ar) (ov : (Tm.node y ss).Ok ar) (hx : x < 0) (hxy : x ≠ y) (hm : x ∈ ((Tm.node y ss).sub σ).flat) : uniB s t = false := by
  have hy : ¬ y < 0 := fun hy => by
    rw [ok_var ov hy, vr_sub hy, h.tri.unb y hy (hv.fr hy), vr_flat, List.mem_singleton] at hm
    exact hxy hm
  exact h.no fun θ hθ e => h.tri.occ hx hy ov hm hθ (by rw [← hv.rt θ hθ, ← e, hu.rt θ hθ, ok_var ou hx, vr_sub hx])
theorem MeetS.occR (h : MeetS ar b σ r ch s t (L ++ [u]) (R ++ [v])) (hu : HeadU b u (.node x us) x) (hv : HeadU b v (.node y ss) y) (ou : (Tm.node x us).Ok ar) (ov : (Tm.node y ss).Ok ar) (hx : ¬ x < 0) (hy : y < 0) (hm : y ∈ ((Tm.node x us).sub σ).flat) : uniB s t = false :=
  h.no fun θ hθ e => h.tri.occ hy hx ou hm hθ (by rw [← hu.rt θ hθ, e, hv.rt θ hθ, ok_var ov hy, vr_sub hy])
theorem MeetS.size (h : MeetS ar b σ r ch s t (L ++ [u]) (R ++ [v])) (hu : HeadU b u (.node x us) x) (hv : HeadU b v (.node y ss) y) :
    szU σ (L ++ [u]) + szU σ (R ++ [v]) = szU σ L + szU σ R + ((Tm.node x us).sub σ).flat.length + ((Tm.node y ss).sub σ).flat.length := by
  rw [szU_append, szU_append, szU_one, szU_one, hu.rt σ h.tri.sol, hv.rt σ h.tri.sol]; omega
theorem MeetS.rest (h : MeetS ar b σ r ch s t (L ++ [u]) (R ++ [v])) : (∀ e ∈ L, e.flat.length ≤ 60) ∧ (∀ e ∈ R, e.flat.length ≤ 60) := ⟨fun e he => h.l60 e (by simp [he]), fun e he => h.r60 e (by simp [he])⟩
theorem MeetS.same (h : MeetS ar b σ r ch s t (L ++ [u]) (R ++ [v])) (hu : HeadU b u (.node x us) x) (hv : HeadU b v (.node x ss) x) (ou : (Tm.node x us).Ok ar) (ov : (Tm.node x ss).Ok ar) (hx : x < 0) :
    ∃ ch', MeetS ar b σ r ch' s t L R ∧ meas b σ L R < meas b σ (L ++ [u]) (R ++ [v]) := by
  obtain ⟨ch', h1, _⟩ := h.stk.pop
  refine ⟨ch', ⟨h.tri, h.h60, h1, h.pop, h.rest.1, h.rest.2, fun θ => ?_⟩, ?_⟩
  · rw [← h.sol θ]
    constructor
    · rintro ⟨h2, h3⟩
      exact ⟨h2, (allEq_pop h.pop).2 ⟨h3, by rw [hu.rt θ h2, hv.rt θ h2, ok_var ou hx, ok_var ov hx]⟩⟩
    · rintro ⟨h2, h3⟩
      exact ⟨h2, ((allEq_pop h.pop).1 h3).1⟩
  · unfold meas
    refine muU_lt ?_
    rw [h.size hu hv]
    have := flat_pos ((Tm.node x us).sub σ)
    omega
theorem MeetS.bind (h : MeetS ar b σ r ch s t (L ++ [u]) (R ++ [v])) {z : Int} {q : Tm} (hz : z < 0) (h48 : -48 ≤ z) (hb : b z = none) (oq : q.Ok ar) (hq : ∀ y ∈ q.flat, -48 ≤ y) (hq60 : q.flat.length ≤ 60) (hn : z ∉ (q.sub σ).flat) (he : ∀ θ, Sol θ b → (u.sub θ = v.sub θ ↔ θ z = q.sub θ))
    (hM : szU σ L + szU σ R + (q.sub σ).flat.length ≤ szU σ (L ++ [u]) + szU σ (R ++ [v])) (hLR : (∀ e ∈ L, e.Ok ar) ∧ ∀ e ∈ R, e.Ok ar) :
    ∃ σ' r' ch', MeetS ar (setB b z q) σ' r' ch' s t L R ∧ meas (setB b z q) σ' L R < meas b σ (L ++ [u]) (R ++ [v]) := by
  obtain ⟨σ', r', h1, h2⟩ := h.tri.bind hz hb oq hq hn
  obtain ⟨ch', h3, _⟩ := h.stk.pop
  refine ⟨σ', r', ch', ⟨h1, fun x t hx => ?_, h3.mono (setB_mono hb), h.pop, h.rest.1, h.rest.2, fun θ => ?_⟩, ?_⟩
  · by_cases e : x = z
    · rw [e, setB_same] at hx; cases hx; exact hq60
    · rw [setB_other e] at hx; exact h.h60 x t hx
  · rw [← h.sol θ, sol_bind hb]
    constructor
    · rintro ⟨⟨h4, h5⟩, h6⟩
      exact ⟨h4, (allEq_pop h.pop).2 ⟨h6, (he θ h4).2 h5⟩⟩
    · rintro ⟨h4, h5⟩
      obtain ⟨h6, h7⟩ := (allEq_pop h.pop).1 h5
      exact ⟨⟨h4, (he θ h4).1 h7⟩, h6⟩
  · unfold meas
    have h4 := szU_le (σ := σ) (σ' := σ') (M := (q.sub σ).flat.length) (L := L) fun e he => h2 e (hLR.1 e he)
    have h5 := szU_le (σ := σ) (σ' := σ') (M := (q.sub σ).flat.length) (L := R) fun e he => h2 e (hLR.2 e he)
    have hp := flat_pos (q.sub σ)
    obtain ⟨S, hS⟩ : ∃ S, S = szU σ (L ++ [u]) + szU σ (R ++ [v]) := ⟨_, rfl⟩
    rw [← hS] at hM ⊢
    refine muU_bind (by omega) (cnt_set hz h48 hb) ?_
    have h6 : (szU σ L + szU σ R) * (q.sub σ).flat.length ≤ S * S := Nat.mul_le_mul (by omega) (by omega)
    rw [Nat.add_mul] at h6
    omega
theorem MeetS.bindL (h : MeetS ar b σ r ch s t (L ++ [u]) (R ++ [v])) (hu : HeadU b u (.node x us) x) (hv : HeadU b v (.node y ss) y) (ou : (Tm.node x us).Ok ar) (ov : (Tm.node y ss).Ok ar) (dv : ∀ z ∈ (Tm.node y ss).flat, -48 ≤ z) (hx : x < 0) (h48 : -48 ≤ x) (hn : ¬ x ∈ ((Tm.node y ss).sub σ).flat) (hLR : (∀ e ∈ L, e.Ok ar) ∧ ∀ e ∈ R, e.Ok ar) :
    ∃ σ' r' ch', MeetS ar (setB b x (.node y ss)) σ' r' ch' s t L R ∧ meas (setB b x (.node y ss)) σ' L R < meas b σ (L ++ [u]) (R ++ [v]) :=
  h.bind hx h48 (hu.fr hx) ov dv (hv.ld.size h.h60 (h.r60 v (by simp))) hn (fun θ hθ => by rw [hu.rt θ hθ, hv.rt θ hθ, ok_var ou hx, vr_sub hx]) (by rw [h.size hu hv]; omega) hLR
theorem MeetS.bindR (h : MeetS ar b σ r ch s t (L ++ [u]) (R ++ [v])) (hu : HeadU b u (.node x us) x) (hv : HeadU b v (.node y ss) y) (ou : (Tm.node x us).Ok ar) (ov : (Tm.node y ss).Ok ar) (du : ∀ z ∈ (Tm.node x us).flat, -48 ≤ z) (hy : y < 0) (h48 : -48 ≤ y) (hn : ¬ y ∈ ((Tm.node x us).sub σ).flat) (hLR : (∀ e ∈ L, e.Ok ar) ∧ ∀ e ∈ R, e.Ok ar) :
    ∃ σ' r' ch', MeetS ar (setB b y (.node x us)) σ' r' ch' s t L R ∧ meas (setB b y (.node x us)) σ' L R < meas b σ (L ++ [u]) (R ++ [v]) :=
  h.bind hy h48 (hv.fr hy) ou du (hu.ld.size h.h60 (h.l60 u (by simp))) hn (fun θ hθ => by rw [hu.rt θ hθ, hv.rt θ hθ, ok_var ov hy, vr_sub hy]; exact eq_comm) (by rw [h.size hu hv]; omega) hLR
theorem MeetS.args (h : MeetS ar b σ r ch s t (L ++ [u]) (R ++ [v])) (hu : HeadU b u (.node x us) x) (hv : HeadU b v (.node x ss) x) (hx : ¬ x < 0) (hl : us.length = ss.length) (h3 : us.length ≤ 3) :
    ∃ ch', MeetS ar b σ r ch' s t (L ++ us) (R ++ ss) ∧ meas b σ (L ++ us) (R ++ ss) < meas b σ (L ++ [u]) (R ++ [v]) := by
  obtain ⟨ch', h1, h2⟩ := h.stk.pop
  have hu60 := hu.ld.size h.h60 (h.l60 u (by simp))
  have hv60 := hv.ld.size h.h60 (h.r60 v (by simp))
  refine ⟨_, ⟨h.tri, h.h60, .push h1 (fun n' e => ⟨u, h2 n' e, hu.ld⟩) hu60 h3 (fun e he => he), by simp [h.pop, hl], fun e he => ?_, fun e he => ?_, fun θ => ?_⟩, ?_⟩
  · rcases List.mem_append.1 he with he | he
    · exact h.rest.1 e he
    · have := (kid_mem (n := .node x us) he).2; omega
  · rcases List.mem_append.1 he with he | he
    · exact h.rest.2 e he
    · have := (kid_mem (n := .node x ss) he).2; omega
  · rw [← h.sol θ, allEq_append h.pop]
    constructor
    · rintro ⟨h4, h5, h6⟩
      exact ⟨h4, (allEq_pop h.pop).2 ⟨h5, by rw [hu.rt θ h4, hv.rt θ h4]; exact (allEq_args hx).1 h6⟩⟩
    · rintro ⟨h4, h5⟩
      obtain ⟨h6, h7⟩ := (allEq_pop h.pop).1 h5
      rw [hu.rt θ h4, hv.rt θ h4] at h7
      exact ⟨h4, h6, (allEq_args hx).2 h7⟩
  · unfold meas
    refine muU_lt ?_
    rw [h.size hu hv, szU_append, szU_append]
    have := szU_args (σ := σ) (us := us) hx
    have := szU_args (σ := σ) (us := ss) hx
    omega
end

end Go.Proofs.Ytoopopgbbkmcpaa
