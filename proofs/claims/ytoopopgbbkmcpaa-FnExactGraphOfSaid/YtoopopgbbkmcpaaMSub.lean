/- Plain: terms filled, and steps at places. -/
import Derived.Test.YtoopopgbbkmcpaaMDep
namespace Go.Proofs.Ytoopopgbbkmcpaa
set_option linter.unusedVariables false

mutual
/-- A tree whose variables become trees. -/
def Tm.sub (g : Int → Tm) : Tm → Tm
  | .node x as => if x < 0 then g x else .node x (subL g as)
def subL (g : Int → Tm) : List Tm → List Tm
  | [] => []
  | a :: as => a.sub g :: subL g as
end
theorem sub_node (g : Int → Tm) (x : Int) (as : List Tm) : (Tm.node x as).sub g = if x < 0 then g x else .node x (subL g as) := by rw [Tm.sub]
theorem sub_var {g : Int → Tm} {x : Int} {as : List Tm} (h : x < 0) : (Tm.node x as).sub g = g x := by rw [sub_node, if_pos h]
theorem sub_sym {g : Int → Tm} {x : Int} {as : List Tm} (h : ¬ x < 0) : (Tm.node x as).sub g = .node x (subL g as) := by rw [sub_node, if_neg h]
theorem subL_map (g : Int → Tm) : ∀ (as : List Tm), subL g as = as.map (Tm.sub g)
  | [] => by rw [subL]; rfl
  | a :: as => by rw [subL, subL_map g as]; rfl
theorem subL_nil (g : Int → Tm) : subL g [] = [] := by rw [subL]
theorem subL_cons (g : Int → Tm) (a : Tm) (as : List Tm) : subL g (a :: as) = a.sub g :: subL g as := by rw [subL]
theorem subL_len (g : Int → Tm) (as : List Tm) : (subL g as).length = as.length := by rw [subL_map, List.length_map]
/-- .. and its list. -/
def fill (h : Int → List Int) (t : List Int) : List Int := t.flatMap fun x => if x < 0 then h x else [x]
theorem fill_nil (h : Int → List Int) : fill h [] = [] := rfl
theorem fill_cons (h : Int → List Int) (x : Int) (t : List Int) : fill h (x :: t) = (if x < 0 then h x else [x]) ++ fill h t := by unfold fill; rw [List.flatMap_cons]
theorem fill_append (h : Int → List Int) (s t : List Int) : fill h (s ++ t) = fill h s ++ fill h t := by unfold fill; rw [List.flatMap_append]
theorem fill_congr {h k : Int → List Int} {t : List Int} (e : ∀ x ∈ t, x < 0 → h x = k x) : fill h t = fill k t := by
  induction t with
  | nil => rfl
  | cons x t ih =>
    rw [fill_cons, fill_cons, ih fun y hy => e y (List.mem_cons_of_mem _ hy)]
    by_cases h0 : x < 0
    · rw [if_pos h0, if_pos h0, e x List.mem_cons_self h0]
    · rw [if_neg h0, if_neg h0]
theorem arI_var {ar : List Int} {x : Int} (h : x < 0) : arI ar x = some 0 := by unfold arI; rw [if_pos h]
mutual
theorem flat_sub' {ar : List Int} (g : Int → Tm) : ∀ (u : Tm), u.Ok ar → (u.sub g).flat = fill (fun x => (g x).flat) u.flat
  | .node x as, h => by
    obtain ⟨h1, h2⟩ := Ok_node.1 h
    by_cases h0 : x < 0
    · rw [arI_var h0] at h1
      have e : as = [] := List.length_eq_zero_iff.1 (Option.some.inj h1).symm
      subst e
      rw [sub_var h0, flat_node, flatL_nil, fill_cons, if_pos h0, fill_nil, List.append_nil]
    · rw [sub_sym h0, flat_node, flat_node, fill_cons, if_neg h0, flatL_sub g as h2]; rfl
theorem flatL_sub {ar : List Int} (g : Int → Tm) : ∀ (as : List Tm), OkL ar as → flatL (subL g as) = fill (fun x => (g x).flat) (flatL as)
  | [], _ => by rw [subL_nil, flatL_nil, fill_nil]
  | a :: as, h => by
    obtain ⟨h1, h2⟩ := OkL_cons.1 h
    rw [subL_cons, flatL_cons, flatL_cons, fill_append, flat_sub' g a h1, flatL_sub g as h2]
end
mutual
theorem sub_ok {ar : List Int} {g : Int → Tm} (hg : ∀ x, x < 0 → (g x).Ok ar) : ∀ (u : Tm), u.Ok ar → (u.sub g).Ok ar
  | .node x as, h => by
    obtain ⟨h1, h2⟩ := Ok_node.1 h
    by_cases h0 : x < 0
    · rw [sub_var h0]; exact hg x h0
    · rw [sub_sym h0, Ok_node, subL_len]; exact ⟨h1, subL_ok hg as h2⟩
theorem subL_ok {ar : List Int} {g : Int → Tm} (hg : ∀ x, x < 0 → (g x).Ok ar) : ∀ (as : List Tm), OkL ar as → OkL ar (subL g as)
  | [], _ => by rw [subL_nil]; simp [OkL]
  | a :: as, h => by
    obtain ⟨h1, h2⟩ := OkL_cons.1 h
    rw [subL_cons, OkL_cons]; exact ⟨sub_ok hg a h1, subL_ok hg as h2⟩
end
mutual
theorem sub_congr {ar : List Int} {g k : Int → Tm} : ∀ (u : Tm), u.Ok ar → (∀ x ∈ u.flat, x < 0 → g x = k x) → u.sub g = u.sub k
  | .node x as, h, e => by
    obtain ⟨h1, h2⟩ := Ok_node.1 h
    rw [flat_node] at e
    by_cases h0 : x < 0
    · rw [sub_var h0, sub_var h0, e x List.mem_cons_self h0]
    · rw [sub_sym h0, sub_sym h0, subL_congr as h2 fun y hy => e y (List.mem_cons_of_mem _ hy)]
theorem subL_congr {ar : List Int} {g k : Int → Tm} : ∀ (as : List Tm), OkL ar as → (∀ x ∈ flatL as, x < 0 → g x = k x) → subL g as = subL k as
  | [], _, _ => by rw [subL_nil, subL_nil]
  | a :: as, h, e => by
    obtain ⟨h1, h2⟩ := OkL_cons.1 h
    rw [flatL_cons] at e
    rw [subL_cons, subL_cons, sub_congr a h1 fun y hy => e y (List.mem_append_left _ hy), subL_congr as h2 fun y hy => e y (List.mem_append_right _ hy)]
end

/-- One tree becomes another one at a place. -/
inductive At (R : Tm → Tm → Prop) : Nat → Tm → Tm → Prop
  | here {u v : Tm} : R u v → At R 0 u v
  | arg {x : Int} {as bs : List Tm} {a b : Tm} {p : Nat} : At R p a b → At R (1 + (flatL as).length + p) (.node x (as ++ a :: bs)) (.node x (as ++ b :: bs))
theorem At.imp {R S : Tm → Tm → Prop} (hR : ∀ u v, R u v → S u v) {p : Nat} {u v : Tm} (h : At R p u v) : At S p u v := by
  induction h with
  | here h => exact .here (hR _ _ h)
  | arg _ ih => exact .arg ih
theorem OkL_append {ar : List Int} {as bs : List Tm} : OkL ar (as ++ bs) ↔ OkL ar as ∧ OkL ar bs := by
  rw [OkL_iff, OkL_iff, OkL_iff]
  constructor
  · exact fun h => ⟨fun a ha => h a (List.mem_append_left _ ha), fun a ha => h a (List.mem_append_right _ ha)⟩
  · rintro ⟨h1, h2⟩ a ha
    rcases List.mem_append.1 ha with ha | ha
    · exact h1 a ha
    · exact h2 a ha
theorem At.ok {ar : List Int} {R : Tm → Tm → Prop} (hR : ∀ u v, R u v → v.Ok ar) {p : Nat} {u v : Tm} (h : At R p u v) : u.Ok ar → v.Ok ar := by
  induction h with
  | here h => exact fun _ => hR _ _ h
  | arg h ih =>
    intro hu
    obtain ⟨h1, h2⟩ := Ok_node.1 hu
    obtain ⟨h3, h4⟩ := OkL_append.1 h2
    obtain ⟨h5, h6⟩ := OkL_cons.1 h4
    exact Ok_node.2 ⟨by rw [h1]; simp, OkL_append.2 ⟨h3, OkL_cons.2 ⟨ih h5, h6⟩⟩⟩
mutual
/-- What stands at a place may be put out for another tree. -/
theorem at_put {ar : List Int} {a b : Tm} (ha : a.Ok ar) : ∀ (t : Tm), t.Ok ar → ∀ (p : Nat) (post : List Int), p < t.flat.length → t.flat.drop p = a.flat ++ post →
    ∃ t', At (fun u v => u = a ∧ v = b) p t t' ∧ t'.flat = t.flat.take p ++ b.flat ++ post
  | .node x as, ht, 0, post, _, h => by
    rw [List.drop_zero] at h
    obtain ⟨e1, e2⟩ := flat_inj (.node x as) a ht ha [] post (by rw [List.append_nil]; exact h)
    exact ⟨b, .here ⟨e1, rfl⟩, by rw [← e2]; simp⟩
  | .node x as, ht, p + 1, post, hp, h => by
    rw [flat_node] at h hp
    rw [List.drop_succ_cons] at h
    obtain ⟨l1, c, l2, c', q, e1, e2, e3, e4⟩ := atL_put (b := b) ha as (Ok_node.1 ht).2 p post (by simpa using hp) h
    subst e1
    have h5 : At (fun u v => u = a ∧ v = b) (1 + (flatL l1).length + q) (.node x (l1 ++ c :: l2)) (.node x (l1 ++ c' :: l2)) := .arg e3
    refine ⟨.node x (l1 ++ c' :: l2), ?_, ?_⟩
    · rw [show p + 1 = 1 + (flatL l1).length + q by omega]; exact h5
    · rw [flat_node, flat_node, List.take_succ_cons, List.cons_append, List.cons_append, e4]
theorem atL_put {ar : List Int} {a b : Tm} (ha : a.Ok ar) : ∀ (as : List Tm), OkL ar as → ∀ (p : Nat) (post : List Int), p < (flatL as).length → (flatL as).drop p = a.flat ++ post →
    ∃ (l1 : List Tm) (c : Tm) (l2 : List Tm) (c' : Tm) (q : Nat), as = l1 ++ c :: l2 ∧ p = (flatL l1).length + q ∧ At (fun u v => u = a ∧ v = b) q c c' ∧ flatL (l1 ++ c' :: l2) = (flatL as).take p ++ b.flat ++ post
  | [], _, p, post, hp, _ => by rw [flatL_nil] at hp; simp at hp
  | c :: as, hl, p, post, hp, h => by
    obtain ⟨k1, k2⟩ := OkL_cons.1 hl
    rw [flatL_cons, List.length_append] at hp
    rw [flatL_cons] at h
    by_cases h1 : p < c.flat.length
    · obtain ⟨v, rest, hv, hd⟩ := sub_ex c k1 p h1
      rw [List.drop_append_of_le_length (by omega), hd, List.append_assoc] at h
      obtain ⟨e1, e2⟩ := flat_inj v a hv ha _ _ h
      subst e1
      obtain ⟨c', e3, e4⟩ := at_put (b := b) ha c k1 p rest h1 hd
      refine ⟨[], c, as, c', p, rfl, by rw [flatL_nil]; simp, e3, ?_⟩
      rw [List.nil_append, flatL_cons, e4, flatL_cons, ← e2, List.take_append_of_le_length (by omega)]
      simp
    · have h2 : (flatL as).drop (p - c.flat.length) = a.flat ++ post := by
        rw [List.drop_append, List.drop_of_length_le (by omega), List.nil_append] at h; exact h
      obtain ⟨l1, d, l2, d', q, e1, e2, e3, e4⟩ := atL_put (b := b) ha as k2 (p - c.flat.length) post (by omega) h2
      have h9 : p = (flatL (c :: l1)).length + q := by
        have h8 : (flatL (c :: l1)).length = c.flat.length + (flatL l1).length := by rw [flatL_cons, List.length_append]
        omega
      refine ⟨c :: l1, d, l2, d', q, by rw [e1]; rfl, h9, e3, ?_⟩
      rw [List.cons_append, flatL_cons, e4, flatL_cons, List.take_append, List.take_of_length_le (l := c.flat) (i := p) (by omega)]
      simp
end

/-- What a list of terms gives for a variable. -/
def gives (σ : List (List Int)) (x : Int) : List Int := if σ.getD (-1 - x).toNat [] = [] then [x] else σ.getD (-1 - x).toNat []
theorem gives_no {σ : List (List Int)} {x : Int} (h : σ.getD (-1 - x).toNat [] = []) : gives σ x = [x] := if_pos h
theorem gives_yes {σ : List (List Int)} {x : Int} {t : List Int} (h : σ.getD (-1 - x).toNat [] = t) (h0 : t ≠ []) : gives σ x = t := by
  unfold gives; rw [h, if_neg h0]
/-- A right list of terms for variables. -/
def SubP (ar : List Int) (σ : List (List Int)) : Prop := σ.length ≤ 24 ∧ ∀ t ∈ σ, t ≠ [] → TermP ar t
noncomputable def givT (ar : List Int) (σ : List (List Int)) (x : Int) : Tm := tmOf ar (gives σ x)
theorem SubP.at_ {ar : List Int} {σ : List (List Int)} (h : SubP ar σ) (k : Nat) : σ.getD k [] = [] ∨ TermP ar (σ.getD k []) := by
  rw [List.getD_eq_getElem?_getD]
  rcases hk : σ[k]? with _ | t
  · exact .inl rfl
  · by_cases h0 : t = []
    · exact .inl (by rw [h0]; rfl)
    · exact .inr (h.2 t (List.mem_of_getElem? hk) h0)
theorem var_ok (ar : List Int) {x : Int} (h : x < 0) : (Tm.node x []).Ok ar := Ok_node.2 ⟨by rw [arI_var h]; rfl, by simp [OkL]⟩
theorem givT_ok {ar : List Int} {σ : List (List Int)} (h : SubP ar σ) {x : Int} (hx : x < 0) : (givT ar σ x).Ok ar ∧ (givT ar σ x).flat = gives σ x := by
  unfold givT
  rcases h.at_ (-1 - x).toNat with h1 | h1
  · rw [gives_no h1]
    have e : [x] = (Tm.node x []).flat := by rw [flat_node, flatL_nil]
    rw [e, tmOf_flat (var_ok ar hx)]
    exact ⟨var_ok ar hx, rfl⟩
  · rw [gives_yes rfl fun e => by rw [e] at h1; exact absurd h1.2.1.1 (by simp)]
    exact tmOf_ok h1
/-- A right term filled, as a tree. -/
theorem fill_tree {ar : List Int} {σ : List (List Int)} (h : SubP ar σ) {u : Tm} (hu : u.Ok ar) : (u.sub (givT ar σ)).Ok ar ∧ (u.sub (givT ar σ)).flat = fill (gives σ) u.flat := by
  refine ⟨sub_ok (fun x hx => (givT_ok h hx).1) u hu, ?_⟩
  rw [flat_sub' _ u hu]
  exact fill_congr fun x _ hx => (givT_ok h hx).2

/-- A right term, by its tree. -/
theorem termP_flat {ar : List Int} {u : Tm} (hs : SigP ar) (hu : u.Ok ar) (hl : u.flat.length ≤ 60) (hv : ∀ x ∈ u.flat, -24 ≤ x) : TermP ar u.flat := by
  refine ⟨hs, ⟨flat_pos u, hl⟩, hv, ?_⟩
  have := scan_flat u hu [] 0
  rw [List.append_nil, scan_zero] at this
  rw [this]; simp
end Go.Proofs.Ytoopopgbbkmcpaa
