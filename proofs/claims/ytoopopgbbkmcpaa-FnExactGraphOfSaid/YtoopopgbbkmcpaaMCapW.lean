/- Plain: a term is an instance of what it is capped to, and stays one along steps below its head. -/
import Derived.Test.YtoopopgbbkmcpaaMCap
import Derived.Test.YtoopopgbbkmcpaaMStep
namespace Go.Proofs.Ytoopopgbbkmcpaa
set_option linter.unusedVariables false

mutual
/-- Capped below the head, and how many variables are used. -/
noncomputable def capA (s : Sy) : Nat → Tm → Tm × Nat
  | f, .node x as => if (decide (x < 0) || dfd s x) = true then (.node (-((f : Int) + 1)) [], f + 1) else (.node x (capL s f as).1, (capL s f as).2)
noncomputable def capL (s : Sy) : Nat → List Tm → List Tm × Nat
  | f, [] => ([], f)
  | f, a :: as => ((capA s f a).1 :: (capL s (capA s f a).2 as).1, (capL s (capA s f a).2 as).2)
end
noncomputable def capT (s : Sy) : Tm → Tm
  | .node x as => if x < 0 then .node (-1) [] else .node x (capL s 0 as).1
theorem capT_node (s : Sy) (x : Int) (as : List Tm) : capT s (.node x as) = if x < 0 then .node (-1) [] else .node x (capL s 0 as).1 := rfl
theorem capL_nil (s : Sy) (f : Nat) : capL s f [] = ([], f) := by simp only [capL]
theorem capL_cons (s : Sy) (f : Nat) (a : Tm) (as : List Tm) : capL s f (a :: as) = ((capA s f a).1 :: (capL s (capA s f a).2 as).1, (capL s (capA s f a).2 as).2) := by simp only [capL]
theorem capA_node (s : Sy) (f : Nat) (x : Int) (as : List Tm) : capA s f (.node x as) = if (decide (x < 0) || dfd s x) = true then (.node (-((f : Int) + 1)) [], f + 1) else (.node x (capL s f as).1, (capL s f as).2) := by simp only [capA]
theorem capL_append (s : Sy) : ∀ (as bs : List Tm) (f : Nat), capL s f (as ++ bs) = ((capL s f as).1 ++ (capL s (capL s f as).2 bs).1, (capL s (capL s f as).2 bs).2)
  | [], bs, f => by rw [List.nil_append, capL_nil]; rfl
  | a :: as, bs, f => by
    rw [List.cons_append, capL_cons, capL_cons, capL_append s as bs]
    rfl
theorem capL_len (s : Sy) : ∀ (as : List Tm) (f : Nat), (capL s f as).1.length = as.length
  | [], f => by rw [capL_nil]
  | a :: as, f => by rw [capL_cons]; simp [capL_len s as]
/-- The list is that of the tree. -/
theorem capGo_tree {s : Sy} {t : List Int} (ht : TermP s.ar t) : ∀ (n p f : Nat) (ts : List Tm), 1 ≤ p → t.length ≤ n + p → OkL s.ar ts → t.drop p = flatL ts → capGo s t n p f = (flatL (capL s f ts).1, (capL s f ts).2)
  | 0, p, f, ts, h1, hn, ho, hd => by
    rw [List.drop_of_length_le (by omega)] at hd
    cases ts with
    | nil => rw [capL_nil]; simp [capGo, flatL_nil]
    | cons a ts => rw [flatL_cons] at hd; have := congrArg List.length hd; have h2 := flat_pos a; simp at this; omega
  | n + 1, p, f, ts, h1, hn, ho, hd => by
    cases ts with
    | nil =>
      rw [flatL_nil] at hd
      rw [capGo_end (by rw [List.drop_eq_nil_iff] at hd; exact hd), capL_nil, flatL_nil]
    | cons a ts =>
      obtain ⟨x, as⟩ := a
      obtain ⟨ha, hts⟩ := OkL_cons.1 ho
      rw [flatL_cons] at hd
      have hd2 := hd
      rw [flat_node, List.cons_append] at hd
      have hp : p < t.length := by
        rcases Nat.lt_or_ge p t.length with h | h
        · exact h
        · rw [List.drop_of_length_le h] at hd; cases hd
      have hx : t[p]? = some x := by
        rw [List.drop_eq_getElem_cons hp] at hd
        rw [List.getElem?_eq_getElem hp, (List.cons_eq_cons.1 hd).1]
      have hd3 : t.drop (p + 1) = flatL as ++ flatL ts := by
        rw [List.drop_eq_getElem_cons hp] at hd
        exact (List.cons_eq_cons.1 hd).2
      have hfr : freshAt s p x = (decide (x < 0) || dfd s x) := by unfold freshAt; rw [decide_eq_true (show p ≠ 0 by omega), Bool.true_and]
      rw [capL_cons, capA_node]
      cases hc : (decide (x < 0) || dfd s x) with
      | true =>
        rw [if_pos rfl]
        have hsub : subT s.ar t p = .node x as := subT_eqS ht ha hd2
        have hdr : t.drop (p + (Tm.node x as).flat.length) = flatL ts := by rw [← List.drop_drop, hd2]; simp
        rw [capGo_fresh hx (hfr.trans hc), hsub, capGo_tree ht n _ (f + 1) ts (by omega) (by have := flat_pos (Tm.node x as); omega) hts hdr]
        simp [flatL_cons, flat_node, flatL_nil]
      | false =>
        rw [if_neg (by simp)]
        rw [capGo_kept hx (hfr.trans hc), capGo_tree ht n (p + 1) f (as ++ ts) (by omega) (by omega) (OkL_append.2 ⟨(Ok_node.1 ha).2, hts⟩) (by rw [hd3, flatL_append]), capL_append]
        simp [flatL_cons, flat_node, flatL_append]
theorem capO_tree {s : Sy} {u : Tm} (ou : u.Ok s.ar) (hu : TermP s.ar u.flat) : capO s u.flat = (capT s u).flat := by
  obtain ⟨x, as⟩ := u
  have hl : (Tm.node x as).flat.length = (flatL as).length + 1 := by rw [flat_node]; simp
  have hx : (Tm.node x as).flat[0]? = some x := by rw [flat_node]; rfl
  rw [capT_node]
  unfold capO
  rw [hl]
  by_cases h0 : x < 0
  · have has : as = [] := by
      have := (Ok_node.1 ou).1
      rw [arI_var h0] at this
      exact List.length_eq_zero_iff.1 (Option.some.inj this).symm
    subst has
    rw [capGo_fresh hx (by simp [freshAt, h0]), subT_eqS hu ou (rest := []) (by simp), capGo_end (by simp), if_pos h0]
    simp [flat_node, flatL_nil]
  · rw [capGo_kept hx (by simp [freshAt, h0]), capGo_tree hu _ 1 0 as (Nat.le_refl _) (by omega) (Ok_node.1 ou).2 (by rw [flat_node]; rfl), if_neg h0, flat_node]
mutual
/-- The second one has the shape of the first one. -/
inductive Cp : Tm → Tm → Prop
  | var {x : Int} {t : Tm} : x < 0 → Cp (.node x []) t
  | fn {x : Int} {cs ts : List Tm} : 0 ≤ x → CpL cs ts → Cp (.node x cs) (.node x ts)
inductive CpL : List Tm → List Tm → Prop
  | nil : CpL [] []
  | cons {c t : Tm} {cs ts : List Tm} : Cp c t → CpL cs ts → CpL (c :: cs) (t :: ts)
end
theorem CpL.append_inv {cs as bs : List Tm} {a : Tm} : CpL cs (as ++ a :: bs) → ∃ ca c cb, cs = ca ++ c :: cb ∧ CpL ca as ∧ Cp c a ∧ CpL cb bs := by
  induction as generalizing cs with
  | nil => intro h; cases h with | cons h1 h2 => exact ⟨[], _, _, rfl, .nil, h1, h2⟩
  | cons b as ih =>
    intro h
    cases h with
    | cons h1 h2 =>
      obtain ⟨ca, c, cb, e, h3, h4, h5⟩ := ih h2
      exact ⟨_ :: ca, c, cb, by rw [e]; rfl, .cons h1 h3, h4, h5⟩
theorem CpL.append {ca cb as bs : List Tm} {a c : Tm} (h1 : CpL ca as) (h2 : Cp c a) (h3 : CpL cb bs) : CpL (ca ++ c :: cb) (as ++ a :: bs) := by
  induction ca generalizing as with
  | nil => cases h1; exact .cons h2 h3
  | cons d ca ih => cases h1 with | cons h4 h5 => exact .cons h4 (ih h5)
mutual
/-- No head is defined. -/
def Nd (s : Sy) : Tm → Prop
  | .node x as => (x < 0 ∨ dfd s x = false) ∧ NdL s as
def NdL (s : Sy) : List Tm → Prop
  | [] => True
  | a :: as => Nd s a ∧ NdL s as
end
theorem NdL_append {s : Sy} {as bs : List Tm} {a : Tm} (h : NdL s (as ++ a :: bs)) : Nd s a := by
  induction as with
  | nil => simp only [List.nil_append, NdL] at h; exact h.1
  | cons b as ih => simp only [List.cons_append, NdL] at h; exact ih h.2
def hdC : Tm → Int
  | .node x _ => x
/-- A step whose left side has a defined head. -/
theorem Cp.step {s : Sy} {R : Tm → Tm → Prop} (hR : ∀ u v, R u v → 0 ≤ hdC u ∧ dfd s (hdC u) = true) {p : Nat} {u v : Tm} (h : At R p u v) : ∀ c, Nd s c → Cp c u → Cp c v := by
  induction h with
  | @here u v h =>
    intro c hn hc
    cases hc with
    | var h0 => exact .var h0
    | @fn x cs ts h0 hl =>
      have := hR _ _ h
      simp only [Nd] at hn
      simp only [hdC] at this
      rcases hn.1 with h1 | h1
      · omega
      · rw [this.2] at h1; cases h1
  | @arg x as bs a b p h ih =>
    intro c hn hc
    cases hc with
    | var h0 => exact .var h0
    | @fn x cs ts h0 hl =>
      obtain ⟨ca, c, cb, rfl, h1, h2, h3⟩ := hl.append_inv
      simp only [Nd] at hn
      exact .fn h0 (CpL.append h1 (ih c (NdL_append hn.2) h2) h3)
theorem Cp.step0 {s : Sy} {R : Tm → Tm → Prop} (hR : ∀ u v, R u v → 0 ≤ hdC u ∧ dfd s (hdC u) = true) {p : Nat} {u v : Tm} (h : At R p u v) (hp : p ≠ 0) {x : Int} {cs : List Tm} (hn : NdL s cs) (hc : Cp (.node x cs) u) : Cp (.node x cs) v := by
  cases h with
  | here h => exact absurd rfl hp
  | @arg y as bs a b p h =>
    cases hc with
    | var h0 => exact .var h0
    | fn h0 hl =>
      obtain ⟨ca, c, cb, rfl, h1, h2, h3⟩ := hl.append_inv
      exact .fn h0 (CpL.append h1 (Cp.step hR h c (NdL_append hn) h2) h3)
mutual
theorem capA_cp (s : Sy) : ∀ (u : Tm) (f : Nat), Cp (capA s f u).1 u ∧ Nd s (capA s f u).1
  | .node x as, f => by
    rw [capA_node]
    cases hc : (decide (x < 0) || dfd s x) with
    | true => rw [if_pos rfl]; exact ⟨.var (by omega), by simp only [Nd, NdL]; exact ⟨.inl (by omega), trivial⟩⟩
    | false =>
      rw [if_neg (by simp)]
      rw [Bool.or_eq_false_iff, decide_eq_false_iff_not] at hc
      obtain ⟨h1, h2⟩ := capL_cp s as f
      exact ⟨.fn (by omega) h1, by simp only [Nd]; exact ⟨.inr hc.2, h2⟩⟩
theorem capL_cp (s : Sy) : ∀ (us : List Tm) (f : Nat), CpL (capL s f us).1 us ∧ NdL s (capL s f us).1
  | [], f => by rw [capL_nil]; exact ⟨.nil, by simp only [NdL]⟩
  | a :: as, f => by
    rw [capL_cons]
    obtain ⟨h1, h2⟩ := capA_cp s a f
    obtain ⟨h3, h4⟩ := capL_cp s as (capA s f a).2
    exact ⟨.cons h1 h3, by simp only [NdL]; exact ⟨h2, h4⟩⟩
end
mutual
theorem capA_ok {s : Sy} : ∀ (u : Tm) (f : Nat), u.Ok s.ar → (capA s f u).1.Ok s.ar
  | .node x as, f, h => by
    rw [capA_node]
    split
    · exact Ok_node.2 ⟨by rw [arI_var (by omega)]; rfl, by simp [OkL]⟩
    · obtain ⟨h1, h2⟩ := Ok_node.1 h
      exact Ok_node.2 ⟨by rw [capL_len]; exact h1, capL_ok as f h2⟩
theorem capL_ok {s : Sy} : ∀ (us : List Tm) (f : Nat), OkL s.ar us → OkL s.ar (capL s f us).1
  | [], f, _ => by rw [capL_nil]; simp [OkL]
  | a :: as, f, h => by
    rw [capL_cons]
    obtain ⟨h1, h2⟩ := OkL_cons.1 h
    exact OkL_cons.2 ⟨capA_ok a f h1, capL_ok as _ h2⟩
end
theorem capT_ok {s : Sy} {u : Tm} (h : u.Ok s.ar) : (capT s u).Ok s.ar := by
  obtain ⟨x, as⟩ := u
  rw [capT_node]
  split
  · exact Ok_node.2 ⟨by rw [arI_var (by omega)]; rfl, by simp [OkL]⟩
  · obtain ⟨h1, h2⟩ := Ok_node.1 h
    exact Ok_node.2 ⟨by rw [capL_len]; exact h1, capL_ok as 0 h2⟩
/-- Each variable once. -/
def Lin (t : List Int) : Prop := (t.filter fun x => decide (x < 0)).Nodup
theorem capO_lin (s : Sy) (t : List Int) : Lin (capO s t) := by
  unfold Lin
  rw [capO_neg]
  refine List.Pairwise.map _ (fun a b h => ?_) List.nodup_range
  show -((a : Int) + 1) ≠ -((b : Int) + 1)
  omega
mutual
theorem Cp.inst {ar : List Int} : ∀ {c t : Tm}, Cp c t → t.Ok ar → Lin c.flat → ∃ g : Int → List Int, (∀ x, x < 0 → ∃ u : Tm, u.Ok ar ∧ g x = u.flat) ∧ fill g c.flat = t.flat
  | _, t, .var (x := x) h0, ho, hl => ⟨fun _ => t.flat, fun _ _ => ⟨t, ho, rfl⟩, by rw [flat_node, flatL_nil, fill_cons, if_pos h0, fill_nil, List.append_nil]⟩
  | _, _, .fn (x := x) (cs := cs) (ts := ts) h0 h, ho, hl => by
    obtain ⟨g, h1, h2⟩ := CpL.inst h (Ok_node.1 ho).2 (by
      unfold Lin at hl ⊢
      rw [flat_node, List.filter_cons_of_neg (by simp; omega)] at hl
      exact hl)
    exact ⟨g, h1, by rw [flat_node, flat_node, fill_cons, if_neg (by omega), h2]; rfl⟩
theorem CpL.inst {ar : List Int} : ∀ {cs ts : List Tm}, CpL cs ts → OkL ar ts → Lin (flatL cs) → ∃ g : Int → List Int, (∀ x, x < 0 → ∃ u : Tm, u.Ok ar ∧ g x = u.flat) ∧ fill g (flatL cs) = flatL ts
  | _, _, .nil, _, _ => ⟨fun x => (Tm.node x []).flat, fun x hx => ⟨_, Ok_node.2 ⟨by rw [arI_var hx]; rfl, by simp [OkL]⟩, rfl⟩, by rw [flatL_nil, fill_nil]⟩
  | _, _, .cons (c := c) (t := t) (cs := cs) (ts := ts) h k, ho, hl => by
    obtain ⟨o1, o2⟩ := OkL_cons.1 ho
    unfold Lin at hl
    rw [flatL_cons, List.filter_append, List.nodup_append] at hl
    obtain ⟨l1, l2, l3⟩ := hl
    obtain ⟨g1, a1, b1⟩ := Cp.inst h o1 l1
    obtain ⟨g2, a2, b2⟩ := CpL.inst k o2 l2
    refine ⟨fun x => if x ∈ c.flat then g1 x else g2 x, fun x hx => ?_, ?_⟩
    · by_cases hm : x ∈ c.flat
      · simp only [if_pos hm]; exact a1 x hx
      · simp only [if_neg hm]; exact a2 x hx
    · rw [flatL_cons, flatL_cons, fill_append, ← b1, ← b2]
      congr 1
      · exact fill_congr fun x hx _ => by simp only [if_pos hx]
      · refine fill_congr fun x hx hx0 => ?_
        have : ¬ x ∈ c.flat := fun hm => l3 x (List.mem_filter.2 ⟨hm, by simpa using hx0⟩) x (List.mem_filter.2 ⟨hx, by simpa using hx0⟩) rfl
        simp only [if_neg this]
end
/-- The pattern of a term, and what has its shape. -/
structure CapW (s : Sy) (c : List Int) (t : List Int) : Prop where
  tr : ∃ (x : Int) (cs : List Tm), (Tm.node x cs).flat = c ∧ NdL s cs ∧ Cp (.node x cs) (tmOf s.ar t)
  li : Lin c
theorem capW_start {s : Sy} {t : List Int} (ht : TermP s.ar t) : CapW s (capO s t) t := by
  obtain ⟨ou, fu⟩ := tmOf_ok ht
  refine ⟨?_, capO_lin s t⟩
  have h := capO_tree ou (by rw [fu]; exact ht)
  rw [fu] at h
  generalize hu : tmOf s.ar t = u at *
  obtain ⟨x, as⟩ := u
  rw [capT_node] at h
  by_cases h0 : x < 0
  · rw [if_pos h0] at h
    exact ⟨-1, [], h.symm, by simp only [NdL], .var (by omega)⟩
  · rw [if_neg h0] at h
    obtain ⟨h1, h2⟩ := capL_cp s as 0
    exact ⟨x, _, h.symm, h2, .fn (by omega) h1⟩
theorem CapW.inst {s : Sy} {c t : List Int} (h : CapW s c t) (ht : TermP s.ar t) : InstP s.ar c t := by
  obtain ⟨x, cs, e, _, hc⟩ := h.tr
  obtain ⟨ou, fu⟩ := tmOf_ok ht
  obtain ⟨g, h1, h2⟩ := hc.inst ou (by rw [e]; exact h.li)
  exact ⟨g, fun x _ hx => h1 x hx, by rw [← e, h2, fu]⟩
theorem CapW.step {s : Sy} {c t : List Int} {q : Stp} (hs : SysP s) (h : CapW s c t) (ht : TermP s.ar t) (hq : StepP s t q) (h0 : q.at_ ≠ 0) : CapW s c q.to := by
  obtain ⟨k, p, r, T', e1, e2, hr, hp, hA, oT, fT, pT⟩ := stepP_tree hs ht hq
  obtain ⟨x, cs, e, hn, hc⟩ := h.tr
  refine ⟨⟨x, cs, e, hn, ?_⟩, h.li⟩
  rw [← fT, tmOf_flat oT]
  refine Cp.step0 (s := s) (fun u v huv => ?_) hA (by omega) hn hc
  obtain ⟨g, _, _, eu, _⟩ := huv
  obtain ⟨hL, _, hhd, _⟩ := hs.2.2 k r hr
  obtain ⟨oL, fL⟩ := tmOf_ok hL
  generalize hl : tmOf s.ar r.l = L at *
  obtain ⟨y, as⟩ := L
  have hy : r.l[0]? = some y := by rw [← fL, flat_node]; rfl
  have hy0 := hhd y hy
  have : hdC u = y := by rw [eu]; simp [Tm.sub, hdC, show ¬ y < 0 by omega]
  rw [this]
  exact ⟨hy0, dfd_t hr hy⟩
theorem capO_term {s : Sy} {t : List Int} (ht : TermP s.ar t) (h24 : capF s t ≤ 24) : TermP s.ar (capO s t) := by
  obtain ⟨ou, fu⟩ := tmOf_ok ht
  have h := capO_tree ou (by rw [fu]; exact ht)
  rw [fu] at h
  have hlen : (capO s t).length ≤ t.length := by
    have : ∀ n p f, (capGo s t n p f).1.length ≤ n := by
      intro n
      induction n with
      | zero => intro p f; exact Nat.le_refl _
      | succ n ih =>
        intro p f
        cases hx : t[p]? with
        | none => unfold capGo; rw [hx]; simp
        | some x =>
          cases hf : freshAt s p x with
          | true => rw [capGo_fresh hx hf]; have := ih (p + (subT s.ar t p).flat.length) (f + 1); simp only [List.length_cons]; omega
          | false => rw [capGo_kept hx hf]; have := ih (p + 1) f; simp only [List.length_cons]; omega
    exact this _ _ _
  have h60 := ht.2.1.2
  rw [h] at hlen ⊢
  refine termP_flat ht.1 (capT_ok ou) (by omega) fun x hx => ?_
  by_cases h0 : x < 0
  · rw [← h] at hx
    have h1 : x ∈ (capO s t).filter fun x => decide (x < 0) := List.mem_filter.2 ⟨hx, by simpa using h0⟩
    rw [capO_neg] at h1
    obtain ⟨j, hj, e⟩ := List.mem_map.1 h1
    rw [List.mem_range] at hj
    omega
  · omega
theorem capF_le {s : Sy} {t : List Int} (ht : TermP s.ar t) : capF s t ≤ t.length := by
  have : ∀ n p f, f ≤ p → p ≤ t.length → (capGo s t n p f).2 ≤ t.length := by
    intro n
    induction n with
    | zero => intro p f h h2; show f ≤ _; omega
    | succ n ih =>
      intro p f h h2
      cases hx : t[p]? with
      | none => unfold capGo; rw [hx]; simp only; omega
      | some x =>
        have hp := (List.getElem?_eq_some_iff.1 hx).1
        obtain ⟨_, hl, _⟩ := sub_term ht hp
        have := flat_pos (subT s.ar t p)
        cases hf : freshAt s p x with
        | true => rw [capGo_fresh hx hf]; exact ih _ _ (by omega) hl
        | false => rw [capGo_kept hx hf]; exact ih _ _ (by omega) (by omega)
  exact this _ _ _ (Nat.le_refl _) (Nat.zero_le _)

end Go.Proofs.Ytoopopgbbkmcpaa
