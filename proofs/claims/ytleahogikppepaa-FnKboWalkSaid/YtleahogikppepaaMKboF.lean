/- Plain: the Knuth-Bendix order stays where terms are filled, and inside of a term. -/
import Derived.Test.YtleahogikppepaaMKboT
import Derived.Test.YtleahogikppepaaMSub
namespace Go.Proofs.Ytleahogikppepaa
set_option linter.unusedVariables false

/-- Summed over the variables of a list. -/
def vs (F : Int → Int) (t : List Int) : Int := (t.map fun x => if x < 0 then F x else 0).sum
theorem vs_nil (F : Int → Int) : vs F [] = 0 := rfl
theorem vs_cons (F : Int → Int) (x : Int) (t : List Int) : vs F (x :: t) = (if x < 0 then F x else 0) + vs F t := by unfold vs; rw [List.map_cons, List.sum_cons]
theorem vs_append (F : Int → Int) (s t : List Int) : vs F (s ++ t) = vs F s + vs F t := by unfold vs; rw [List.map_append, List.sum_append]
theorem vs_nonneg {F : Int → Int} (h : ∀ x, x < 0 → 0 ≤ F x) (t : List Int) : 0 ≤ vs F t := by
  induction t with
  | nil => exact Int.le_refl 0
  | cons x t ih =>
    rw [vs_cons]
    by_cases h0 : x < 0
    · rw [if_pos h0]; have := h x h0; omega
    · rw [if_neg h0]; omega
theorem vs_erase {F : Int → Int} {x : Int} (h0 : x < 0) : ∀ {t : List Int}, x ∈ t → vs F t = F x + vs F (t.erase x)
  | [], h => by cases h
  | y :: t, h => by
    by_cases e : y = x
    · subst e; rw [List.erase_cons_head, vs_cons, if_pos h0]
    · rw [List.erase_cons_tail (by simpa using e), vs_cons, vs_cons, vs_erase h0 ((List.mem_cons.1 h).resolve_left fun e2 => e e2.symm)]
      omega
theorem vs_le {F : Int → Int} (hF : ∀ x, x < 0 → 0 ≤ F x) : ∀ {s t : List Int}, oftP s t → vs F s ≤ vs F t
  | [], t, _ => by rw [vs_nil]; exact vs_nonneg hF t
  | x :: s, t, h => by
    rw [vs_cons]
    by_cases h0 : x < 0
    · have hx : x ∈ t := by
        have := h x List.mem_cons_self h0
        rw [List.count_cons_self] at this
        exact List.count_pos_iff.1 (by omega)
      rw [if_pos h0, vs_erase h0 hx]
      have := vs_le hF (s := s) (t := t.erase x) fun y hy hy0 => by
        have := h y (List.mem_cons_of_mem _ hy) hy0
        rw [List.count_erase]
        rw [List.count_cons] at this
        by_cases e : x = y
        · subst e; simp at this ⊢; omega
        · have e2 : ¬ y = x := fun e3 => e e3.symm
          simp [e] at this ⊢; omega
      omega
    · rw [if_neg h0]
      have := vs_le hF (s := s) (t := t) fun y hy hy0 => by
        have := h y (List.mem_cons_of_mem _ hy) hy0
        rw [List.count_cons] at this
        omega
      omega
theorem count_fill {h : Int → List Int} {y : Int} (hy : y < 0) (t : List Int) : ((fill h t).count y : Int) = vs (fun x => ((h x).count y : Int)) t := by
  induction t with
  | nil => rfl
  | cons x t ih =>
    rw [fill_cons, vs_cons, List.count_append, ← ih]
    by_cases h0 : x < 0
    · rw [if_pos h0, if_pos h0]; omega
    · rw [if_neg h0, if_neg h0]
      have : [x].count y = 0 := List.count_eq_zero.2 fun e => by rw [List.mem_singleton] at e; omega
      omega
theorem oft_iff {s t : List Int} : oft s t = true ↔ oftP s t := by unfold oft; rw [decide_eq_true_iff]
theorem oft_fill {h : Int → List Int} {s t : List Int} (e : oft s t = true) : oft (fill h s) (fill h t) = true := by
  rw [oft_iff] at e ⊢
  intro y _ hy
  have h1 := count_fill (h := h) hy s
  have h2 := count_fill (h := h) hy t
  have h3 := vs_le (F := fun x => ((h x).count y : Int)) (fun x _ => by omega) e
  omega
theorem wt_fill {W : Wt} {h : Int → List Int} (t : List Int) : wtOf W (fill h t) = wtOf W t + vs (fun x => wtOf W (h x) - W.var) t := by
  induction t with
  | nil => rfl
  | cons x t ih =>
    rw [fill_cons, vs_cons, wtOf_append, ih, wtOf_cons]
    by_cases h0 : x < 0
    · rw [if_pos h0, if_pos h0, wt1_var h0]; omega
    · rw [if_neg h0, if_neg h0]
      have : wtOf W [x] = wt1 W x := by rw [wtOf_cons]; show _ + 0 = _; omega
      omega
theorem kbo_iff {ar : List Int} {W : Wt} {x y : Int} {as bs : List Tm} :
    0 < kbo ar W (.node x as) (.node y bs) ↔ oft (Tm.node x as).flat (Tm.node y bs).flat = true ∧ (wtOf W (Tm.node x as).flat < wtOf W (Tm.node y bs).flat ∨ (wtOf W (Tm.node x as).flat = wtOf W (Tm.node y bs).flat ∧ ¬ y < 0 ∧
      ((x < 0 ∧ wraps ar W x (Tm.node y bs).flat = true) ∨ (¬ x < 0 ∧ (rk1 W x < rk1 W y ∨ (x = y ∧ kboL ar W as bs = true)))))) := by
  rw [kbo_node]
  cases h1 : oft (Tm.node x as).flat (Tm.node y bs).flat with
  | false => simp
  | true =>
    simp only [Bool.true_eq_false, if_false, true_and]
    by_cases c1 : wtOf W (Tm.node x as).flat < wtOf W (Tm.node y bs).flat
    · simp [c1]
    · rw [if_neg c1]
      by_cases c2 : wtOf W (Tm.node y bs).flat < wtOf W (Tm.node x as).flat ∨ y < 0
      · rw [if_pos c2]
        constructor
        · intro h; omega
        · rintro (h | ⟨h, h2, _⟩)
          · exact absurd h c1
          · omega
      · rw [if_neg c2]
        have c3 : wtOf W (Tm.node x as).flat = wtOf W (Tm.node y bs).flat := by omega
        have c4 : ¬ y < 0 := fun h => c2 (.inr h)
        by_cases c5 : x < 0
        · rw [if_pos c5]
          cases h6 : wraps ar W x (Tm.node y bs).flat with
          | true => rw [if_pos rfl]; exact ⟨fun _ => .inr ⟨c3, c4, .inl ⟨c5, rfl⟩⟩, fun _ => by omega⟩
          | false =>
            rw [if_neg (by simp)]
            constructor
            · intro h; omega
            · rintro (h | ⟨_, _, ⟨_, h⟩ | ⟨h, _⟩⟩)
              · exact absurd h c1
              · cases h
              · exact absurd c5 h
        · rw [if_neg c5]
          by_cases c6 : rk1 W x < rk1 W y
          · rw [if_pos c6]; exact ⟨fun _ => .inr ⟨c3, c4, .inr ⟨c5, .inl c6⟩⟩, fun _ => by omega⟩
          · rw [if_neg c6]
            by_cases c7 : x = y ∧ kboL ar W as bs = true
            · rw [if_pos c7]; exact ⟨fun _ => .inr ⟨c3, c4, .inr ⟨c5, .inr c7⟩⟩, fun _ => by omega⟩
            · rw [if_neg c7]
              constructor
              · intro h; omega
              · rintro (h | ⟨_, _, ⟨h, _⟩ | ⟨_, h | h⟩⟩)
                · exact absurd h c1
                · exact absurd h c5
                · exact absurd h c6
                · exact absurd h c7
theorem kboL_self {ar : List Int} {W : Wt} : ∀ (as : List Tm), kboL ar W as as = false
  | [] => kboL_nil ..
  | a :: as => by rw [kboL_cons, if_pos rfl]; exact kboL_self as
theorem kbo_irr {ar : List Int} {W : Wt} (t : Tm) : ¬ 0 < kbo ar W t t := by
  cases t with
  | node x as =>
    rw [kbo_iff]
    rintro ⟨_, h | ⟨_, h1, ⟨h2, _⟩ | ⟨_, h | ⟨_, h⟩⟩⟩⟩
    · omega
    · exact h1 h2
    · omega
    · rw [kboL_self] at h; cases h
theorem kbo_wt {ar : List Int} {W : Wt} {s t : Tm} (h : 0 < kbo ar W s t) : oft s.flat t.flat = true ∧ wtOf W s.flat ≤ wtOf W t.flat := by
  cases s; cases t
  obtain ⟨h1, h2⟩ := kbo_iff.1 h
  exact ⟨h1, by omega⟩
mutual
theorem kbo_asym {ar : List Int} {W : Wt} : ∀ (s t : Tm), 0 < kbo ar W s t → ¬ 0 < kbo ar W t s
  | .node x as, .node y bs, h, k => by
    rw [kbo_iff] at h k
    obtain ⟨_, h | ⟨e1, hy, h⟩⟩ := h
    · omega
    · obtain ⟨_, k | ⟨e2, hx, k⟩⟩ := k
      · omega
      · rcases h with ⟨h, _⟩ | ⟨_, h⟩
        · exact hx h
        · rcases k with ⟨k, _⟩ | ⟨_, k⟩
          · exact hy k
          · rcases h with h | ⟨e, h⟩
            · rcases k with k | ⟨e, _⟩
              · omega
              · subst e; omega
            · rcases k with k | ⟨_, k⟩
              · subst e; omega
              · exact kboL_asym as bs h k
theorem kboL_asym {ar : List Int} {W : Wt} : ∀ (as bs : List Tm), kboL ar W as bs = true → ¬ kboL ar W bs as = true
  | [], bs, h, _ => by rw [kboL_nil] at h; cases h
  | a :: as, [], _, k => by rw [kboL_nil] at k; cases k
  | a :: as, b :: bs, h, k => by
    rw [kboL_cons] at h k
    by_cases e : a.flat = b.flat
    · rw [if_pos e] at h; rw [if_pos e.symm] at k; exact kboL_asym as bs h k
    · rw [if_neg e, decide_eq_true_iff] at h
      rw [if_neg (fun e2 => e e2.symm), decide_eq_true_iff] at k
      exact kbo_asym a b h k
end
/-- Symbols of one argument around a term. -/
def wrapT (cs : List Int) (u : Tm) : Tm := cs.foldr (fun f v => .node f [v]) u
theorem wrapT_cons (c : Int) (cs : List Int) (u : Tm) : wrapT (c :: cs) u = .node c [wrapT cs u] := rfl
theorem wrapT_nil (u : Tm) : wrapT [] u = u := rfl
theorem wrapT_snoc (cs : List Int) (c : Int) (u : Tm) : wrapT (cs ++ [c]) u = wrapT cs (.node c [u]) := by unfold wrapT; rw [List.foldr_append]; rfl
theorem wrapT_flat : ∀ (cs : List Int) (u : Tm), (wrapT cs u).flat = cs ++ u.flat
  | [], u => rfl
  | c :: cs, u => by rw [wrapT_cons, flat_node, flatL_cons, flatL_nil, List.append_nil, wrapT_flat cs u]; rfl
theorem wrapT_sub {g : Int → Tm} : ∀ (cs : List Int) (u : Tm), (∀ c ∈ cs, 0 ≤ c) → (wrapT cs u).sub g = wrapT cs (u.sub g)
  | [], u, _ => rfl
  | c :: cs, u, h => by
    have := h c List.mem_cons_self
    rw [wrapT_cons, sub_sym (by omega), subL_cons, subL_nil, wrapT_sub cs u fun d hd => h d (List.mem_cons_of_mem _ hd)]; rfl
section
variable {ar : List Int} {W : Wt}
theorem wr_zero {c : Int} (h : WrAt ar W c) : wt1 W c = 0 := wt1_sym (by have := h.1; omega) h.2.2
theorem wr_list_zero : ∀ {cs : List Int}, (∀ c ∈ cs, WrAt ar W c) → wtOf W cs = 0
  | [], _ => rfl
  | c :: cs, h => by rw [wtOf_cons, wr_zero (h c List.mem_cons_self), wr_list_zero fun d hd => h d (List.mem_cons_of_mem _ hd)]; rfl
/-- Such a symbol's rank is the greatest one. -/
theorem wr_top (hW : WtP ar W) {c z : Int} (h : WrAt ar W c) (hz : 0 ≤ z) (hz2 : z < ar.length) : rk1 W z ≤ rk1 W c := by
  obtain ⟨⟨_, hl, hall⟩, hs, _, hA⟩ := hW
  obtain ⟨h0, h1, h2⟩ := h
  have hc : c.toNat < W.rank.length := by have := (List.getElem?_eq_some_iff.1 h1).1; omega
  have hzl : z.toNat < W.rank.length := by omega
  have e1 := List.getElem?_eq_getElem hc
  have e2 := List.getElem?_eq_getElem hzl
  have h3 := (hA c.toNat 0 1 _ h2 h1 e1).2.2 rfl rfl
  have h4 := (rank_range hall W.rank[z.toNat] (List.getElem_mem hzl)).2
  rw [rk1_at e1, rk1_at e2]
  omega
theorem oft_wrap {cs : List Int} (t : List Int) : oft t (cs ++ t) = true := by
  rw [oft_iff]; intro x _ _; rw [List.count_append]; omega
theorem kbo_wrap (hW : WtP ar W) : ∀ (u : Tm), u.Ok ar → ∀ (cs : List Int), cs ≠ [] → (∀ c ∈ cs, WrAt ar W c) → 0 < kbo ar W u (wrapT cs u)
  | .node z us, hu, [], h, _ => absurd rfl h
  | .node z us, hu, c :: cs, _, h => by
    have hc := h c List.mem_cons_self
    have hf : (wrapT (c :: cs) (.node z us)).flat = c :: cs ++ (Tm.node z us).flat := wrapT_flat _ _
    have hw : wtOf W (wrapT (c :: cs) (.node z us)).flat = wtOf W (Tm.node z us).flat := by rw [hf, wtOf_append, wr_list_zero h]; omega
    rw [wrapT_cons] at hf hw ⊢
    rw [kbo_iff, hf]
    refine ⟨oft_wrap _, .inr ⟨by rw [← hf, hw], by have := hc.1; omega, ?_⟩⟩
    obtain ⟨h1, h2⟩ := Ok_node.1 hu
    by_cases hz : z < 0
    · refine .inl ⟨hz, wraps_t ⟨fun j x hj hx => ?_, ?_, ?_⟩⟩
      all_goals
        rw [arI_var hz] at h1
        have e : us = [] := List.length_eq_zero_iff.1 (Option.some.inj h1).symm
        subst e
        rw [flat_node, flatL_nil] at *
      · rw [List.length_append] at hj
        simp only [List.length_singleton] at hj
        rw [List.getElem?_append_left (by omega)] at hx
        exact h x (List.mem_of_getElem? hx)
      · simp
      · rw [List.length_append, List.getElem?_append_right (by simp)]
        simp
    · refine .inr ⟨hz, ?_⟩
      have htop := wr_top hW hc (by omega) (arI_lt h1)
      by_cases hr : rk1 W z < rk1 W c
      · exact .inl hr
      · have e : z = c := rkInj_of hW.1 z c (by omega) (arI_lt h1) hc.1 (by have := (List.getElem?_eq_some_iff.1 hc.2.1).1; have := hc.1; omega) (by omega)
        subst e
        refine .inr ⟨rfl, ?_⟩
        have hl : us.length = 1 := by
          have hlt := arI_lt h1
          unfold arI at h1
          rw [if_neg hz, if_pos hlt, List.getD_eq_getElem?_getD, hc.2.1] at h1
          have := Option.some.inj h1
          simpa using this.symm
        match us, hl, h2 with
        | [u], _, h2 =>
          have hu1 := (OkL_cons.1 h2).1
          rw [kboL_cons]
          have e2 : wrapT cs (.node z [u]) = wrapT (cs ++ [z]) u := (wrapT_snoc cs z u).symm
          have e3 : ¬ u.flat = (wrapT cs (.node z [u])).flat := by
            rw [e2, wrapT_flat]
            intro e4
            have := congrArg List.length e4
            simp at this
            omega
          rw [if_neg e3, decide_eq_true_iff, e2]
          exact kbo_wrap hW u hu1 (cs ++ [z]) (by simp) fun d hd => by
            rcases List.mem_append.1 hd with hd | hd
            · exact h d (List.mem_cons_of_mem _ hd)
            · rw [List.mem_singleton] at hd; subst hd; exact hc
theorem wrP_tree {x : Int} : ∀ (t : Tm), t.Ok ar → WrP ar W x t.flat → ∃ cs, cs ≠ [] ∧ (∀ c ∈ cs, WrAt ar W c) ∧ t = wrapT cs (.node x [])
  | .node y bs, ht, h => by
    obtain ⟨h1, h2⟩ := Ok_node.1 ht
    obtain ⟨k1, k2, k3⟩ := h
    rw [flat_node] at k1 k2 k3
    have hy := k1 0 y (by omega) rfl
    have hl : bs.length = 1 := by
      have hlt := arI_lt h1
      unfold arI at h1
      rw [if_neg (by have := hy.1; omega), if_pos hlt, List.getD_eq_getElem?_getD, hy.2.1] at h1
      have := Option.some.inj h1
      simpa using this.symm
    match bs, hl, h2 with
    | [b], _, h2 =>
      have hb := (OkL_cons.1 h2).1
      rw [flatL_cons, flatL_nil, List.append_nil] at k1 k2 k3
      by_cases h5 : b.flat.length = 1
      · cases b with
        | node z cs =>
          rw [flat_node] at h5 k3
          have hcs : flatL cs = [] := List.length_eq_zero_iff.1 (by simpa using h5)
          rw [hcs] at k3
          simp at k3
          have hcs0 : cs = [] := by
            cases cs with
            | nil => rfl
            | cons d ds => rw [flatL_cons] at hcs; have := flat_pos d; have h9 := congrArg List.length hcs; rw [List.length_append] at h9; simp only [List.length_nil] at h9; omega
          exact ⟨[y], by simp, fun c hc => by rw [List.mem_singleton] at hc; subst hc; exact hy, by rw [wrapT_cons, wrapT_nil, hcs0, k3]⟩
      · have hp := flat_pos b
        obtain ⟨cs, e1, e2, e3⟩ := wrP_tree b hb ⟨fun j z hj hz => k1 (j + 1) z (by simp; omega) (by simpa using hz), by omega, by
          rw [List.length_cons, Nat.add_sub_cancel] at k3
          obtain ⟨m, hm⟩ : ∃ m, b.flat.length = m + 1 := ⟨b.flat.length - 1, by omega⟩
          rw [hm] at k3 ⊢
          simpa using k3⟩
        exact ⟨y :: cs, by simp, fun c hc => (List.mem_cons.1 hc).elim (fun e => by subst e; exact hy) (e2 c), by rw [wrapT_cons, ← e3]⟩
/-- Each term weighs as much as a variable. -/
theorem wt_var (hW : WtP ar W) : ∀ (u : Tm), u.Ok ar → W.var ≤ wtOf W u.flat := by
  have hsym : ∀ (x : Int), x < ar.length → 0 ≤ wt1 W x ∧ (arI ar x = some 0 → W.var ≤ wt1 W x) := by
    intro x hx
    have hW2 := hW
    obtain ⟨⟨_, hl, _⟩, hs, hv, hA⟩ := hW2
    by_cases h0 : x < 0
    · rw [wt1_var h0]; omega
    · have h1 : x.toNat < W.sym.length := by omega
      have h2 : x.toNat < ar.length := by omega
      have h3 : x.toNat < W.rank.length := by omega
      have h4 := hA x.toNat _ _ _ (List.getElem?_eq_getElem h1) (List.getElem?_eq_getElem h2) (List.getElem?_eq_getElem h3)
      rw [wt1_sym h0 (List.getElem?_eq_getElem h1)]
      refine ⟨h4.1.1, fun e => h4.2.1 ?_⟩
      unfold arI at e
      rw [if_neg h0, if_pos hx, List.getD_eq_getElem?_getD, List.getElem?_eq_getElem h2] at e
      have := Option.some.inj e
      have := (hW.1.1.2.2 _ (List.getElem_mem h2)).1
      simp at *
      omega
  have hlist : ∀ (t : List Int), (∀ y ∈ t, y < ar.length) → 0 ≤ wtOf W t := by
    intro t
    induction t with
    | nil => intro _; exact Int.le_refl 0
    | cons y t ih =>
      intro hy
      rw [wtOf_cons]
      have := (hsym y (hy y List.mem_cons_self)).1
      have := ih fun z hz => hy z (List.mem_cons_of_mem _ hz)
      omega
  exact go hsym hlist
where
  go (hsym : ∀ (x : Int), x < ar.length → 0 ≤ wt1 W x ∧ (arI ar x = some 0 → W.var ≤ wt1 W x)) (hlist : ∀ (t : List Int), (∀ y ∈ t, y < ar.length) → 0 ≤ wtOf W t) : ∀ (u : Tm), u.Ok ar → W.var ≤ wtOf W u.flat
    | .node x [], h => by
      rw [flat_node, flatL_nil, wtOf_cons]
      have := (hsym x (arI_lt (Ok_node.1 h).1)).2 (Ok_node.1 h).1
      show W.var ≤ wt1 W x + 0
      omega
    | .node x (a :: as), h => by
      obtain ⟨h1, h2⟩ := Ok_node.1 h
      obtain ⟨h3, h4⟩ := OkL_cons.1 h2
      have h5 := go hsym hlist a h3
      have h6 := (hsym x (arI_lt h1)).1
      have h7 := hlist (flatL as) fun y hy => flatL_lt as h4 y hy
      rw [flat_node, flatL_cons, wtOf_cons, wtOf_append]
      omega
mutual
theorem kbo_fill (hW : WtP ar W) {g : Int → Tm} (hg : ∀ x, x < 0 → (g x).Ok ar) : ∀ (s t : Tm), s.Ok ar → t.Ok ar → 0 < kbo ar W s t → 0 < kbo ar W (s.sub g) (t.sub g)
  | .node x as, .node y bs, hs, ht, h => by
    have hkey : ∀ s t : Tm, s.Ok ar → t.Ok ar → oft s.flat t.flat = true → wtOf W s.flat ≤ wtOf W t.flat → oft (s.sub g).flat (t.sub g).flat = true ∧ wtOf W (s.sub g).flat ≤ wtOf W (t.sub g).flat ∧ (wtOf W s.flat < wtOf W t.flat → wtOf W (s.sub g).flat < wtOf W (t.sub g).flat) := by
      intro s t h1 h2 h3 h4
      rw [flat_sub' g s h1, flat_sub' g t h2, wt_fill, wt_fill]
      have := vs_le (F := fun x => wtOf W (g x).flat - W.var) (fun x hx => by have := wt_var hW (g x) (hg x hx); omega) (oft_iff.1 h3)
      exact ⟨oft_fill h3, by omega, by omega⟩
    have h0 := kbo_wt h
    obtain ⟨k1, k2, k3⟩ := hkey _ _ hs ht h0.1 h0.2
    have hcons : ∀ s t : Tm, oft s.flat t.flat = true → wtOf W s.flat < wtOf W t.flat → 0 < kbo ar W s t := by
      intro s t e1 e2; cases s; cases t; exact kbo_iff.2 ⟨e1, .inl e2⟩
    by_cases hlt : wtOf W ((Tm.node x as).sub g).flat < wtOf W ((Tm.node y bs).sub g).flat
    · exact hcons _ _ k1 hlt
    · have heq : wtOf W ((Tm.node x as).sub g).flat = wtOf W ((Tm.node y bs).sub g).flat := by omega
      obtain ⟨_, h | ⟨e1, hy, h⟩⟩ := kbo_iff.1 h
      · exact absurd (k3 h) hlt
      · rcases h with ⟨hx, hwr⟩ | ⟨hx, h⟩
        · rw [sub_var hx]
          have hwr' : WrP ar W x (Tm.node y bs).flat := by simpa only [wraps, decide_eq_true_eq] using hwr
          obtain ⟨cs, q1, q2, q3⟩ := wrP_tree _ ht hwr'
          rw [q3, wrapT_sub cs _ fun c hc => (q2 c hc).1, sub_var hx]
          exact kbo_wrap hW (g x) (hg x hx) cs q1 q2
        · rw [sub_sym hx, sub_sym hy] at k1 heq ⊢
          refine kbo_iff.2 ⟨k1, .inr ⟨heq, hy, .inr ⟨hx, ?_⟩⟩⟩
          rcases h with h | ⟨e, h9⟩
          · exact .inl h
          · have h10 := kboL_fill hW hg as bs (Ok_node.1 hs).2 (Ok_node.1 ht).2 h9
            exact .inr ⟨e, h10⟩
theorem kboL_fill (hW : WtP ar W) {g : Int → Tm} (hg : ∀ x, x < 0 → (g x).Ok ar) : ∀ (as bs : List Tm), OkL ar as → OkL ar bs → kboL ar W as bs = true → kboL ar W (subL g as) (subL g bs) = true
  | [], bs, _, _, h => by rw [kboL_nil] at h; cases h
  | a :: as, [], _, _, h => by rw [kboL] at h; cases h; intros; contradiction
  | a :: as, b :: bs, ha, hb, h => by
    obtain ⟨k1, k2⟩ := OkL_cons.1 ha
    obtain ⟨k3, k4⟩ := OkL_cons.1 hb
    rw [subL_cons, subL_cons, kboL_cons]
    rw [kboL_cons] at h
    by_cases e : a.flat = b.flat
    · rw [if_pos e] at h
      rw [if_pos (by rw [flat_inj' k1 k3 e])]
      exact kboL_fill hW hg as bs k2 k4 h
    · rw [if_neg e, decide_eq_true_iff] at h
      have h2 := kbo_fill hW hg a b k1 k3 h
      have h3 : ¬ (a.sub g).flat = (b.sub g).flat := fun e2 => by
        rw [flat_inj' (sub_ok hg a k1) (sub_ok hg b k3) e2] at h2
        exact kbo_irr _ h2
      rw [if_neg h3, decide_eq_true_iff]; exact h2
end
theorem flatL_mid (l r : List Tm) (a : Tm) : flatL (l ++ a :: r) = flatL l ++ (a.flat ++ flatL r) := by rw [flatL_append, flatL_cons]
theorem kbo_ctx {x : Int} {l r : List Tm} {a b : Tm} (ho : (Tm.node x (l ++ a :: r)).Ok ar) (ha : a.Ok ar) (hb : b.Ok ar) (h : 0 < kbo ar W a b) : 0 < kbo ar W (.node x (l ++ a :: r)) (.node x (l ++ b :: r)) := by
  obtain ⟨h1, h2⟩ := kbo_wt h
  have hx : ¬ x < 0 := fun hx => by
    have := (Ok_node.1 ho).1
    rw [arI_var hx] at this
    have := Option.some.inj this
    simp at this
  rw [kbo_iff, flat_node, flat_node, flatL_mid, flatL_mid]
  have hw : ∀ c : Tm, wtOf W (x :: (flatL l ++ (c.flat ++ flatL r))) = wt1 W x + (wtOf W (flatL l) + (wtOf W c.flat + wtOf W (flatL r))) := fun c => by rw [wtOf_cons, wtOf_append, wtOf_append]
  refine ⟨?_, ?_⟩
  · rw [oft_iff] at h1 ⊢
    intro y hy h0
    have : a.flat.count y ≤ b.flat.count y := by
      by_cases hm : y ∈ a.flat
      · exact h1 y hm h0
      · rw [List.count_eq_zero.2 hm]; omega
    rw [List.count_cons, List.count_cons, List.count_append, List.count_append, List.count_append, List.count_append]
    omega
  · rw [hw, hw]
    by_cases hlt : wtOf W a.flat < wtOf W b.flat
    · exact .inl (by omega)
    · refine .inr ⟨by omega, hx, .inr ⟨hx, .inr ⟨rfl, ?_⟩⟩⟩
      rw [kboL_at (k := l.length) (a := a) (b := b) (by simp) ?_ (by simp) (by simp) ?_, decide_eq_true_iff]
      · exact h
      · intro j hj c d e1 e2
        rw [List.getElem?_append_left hj] at e1 e2
        rw [e1] at e2; cases e2; rfl
      · intro e
        rw [flat_inj' ha hb e] at h
        exact kbo_irr _ h
theorem kbo_at {R : Tm → Tm → Prop} (hR : ∀ u v, R u v → v.Ok ar ∧ 0 < kbo ar W v u) {p : Nat} {u v : Tm} (h : At R p u v) : u.Ok ar → 0 < kbo ar W v u := by
  induction h with
  | here h => exact fun _ => (hR _ _ h).2
  | arg h ih =>
    intro hu
    have h2 := (Ok_node.1 hu).2
    have h3 := (OkL_cons.1 (OkL_append.1 h2).2).1
    have hv := h.ok (fun u v hr => (hR u v hr).1) h3
    exact kbo_ctx (At.ok (fun u v hr => (hR u v hr).1) (.arg h) hu) hv h3 (ih h3)
end

end Go.Proofs.Ytleahogikppepaa
