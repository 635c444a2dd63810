/- Plain: the Knuth-Bendix order tells any two terms without variables apart. -/
import Derived.Test.YtleahogikppepaaMKbo
namespace Go.Proofs.Ytleahogikppepaa
set_option linter.unusedVariables false

def Gnd (t : List Int) : Prop := ∀ x ∈ t, 0 ≤ x
theorem oft_gnd {s t : List Int} (h : Gnd s) : oft s t = true := by
  unfold oft
  rw [decide_eq_true_iff]
  intro x hx h0
  have := h x hx
  omega
theorem Gnd.node {x : Int} {as : List Tm} (h : Gnd (Tm.node x as).flat) : 0 ≤ x ∧ Gnd (flatL as) := by
  rw [flat_node] at h
  exact ⟨h x (List.mem_cons_self ..), fun y hy => h y (List.mem_cons_of_mem _ hy)⟩
theorem Gnd.cons {a : Tm} {as : List Tm} (h : Gnd (flatL (a :: as))) : Gnd a.flat ∧ Gnd (flatL as) := by
  rw [flatL_cons] at h
  exact ⟨fun y hy => h y (List.mem_append_left _ hy), fun y hy => h y (List.mem_append_right _ hy)⟩
/-- Ranks tell symbols apart. -/
def RkInj (ar : List Int) (W : Wt) : Prop := ∀ x y : Int, 0 ≤ x → x < ar.length → 0 ≤ y → y < ar.length → rk1 W x = rk1 W y → x = y
theorem rkInj_of {ar : List Int} {W : Wt} (h : RankP ar W.rank) : RkInj ar W := by
  intro x y hx hx2 hy hy2 e
  obtain ⟨_, hl, hall⟩ := h
  obtain ⟨i, rfl⟩ := Int.eq_ofNat_of_zero_le hx
  obtain ⟨j, rfl⟩ := Int.eq_ofNat_of_zero_le hy
  have hi : i < W.rank.length := by omega
  have hj : j < W.rank.length := by omega
  have e1 : rk1 W (i : Int) = W.rank[i] := rk1_at (by simp [List.getElem?_eq_getElem hi])
  have e2 : rk1 W (j : Int) = W.rank[j] := rk1_at (by simp [List.getElem?_eq_getElem hj])
  rcases Nat.lt_trichotomy i j with h | h | h
  · exact (rank_distinct hall h (List.getElem?_eq_getElem hi) (by rw [List.getElem?_eq_getElem hj, ← e2, ← e, e1])).elim
  · rw [h]
  · exact (rank_distinct hall h (List.getElem?_eq_getElem hj) (by rw [List.getElem?_eq_getElem hi, ← e1, e, e2])).elim
theorem arI_range {ar : List Int} {x : Int} {n : Nat} (h : arI ar x = some n) (h0 : 0 ≤ x) : x < ar.length := arI_lt h
theorem kbo_gnd {ar : List Int} {W : Wt} {x y : Int} {as bs : List Tm} (h1 : Gnd (Tm.node x as).flat) (h2 : Gnd (Tm.node y bs).flat) :
    (0 < kbo ar W (.node x as) (.node y bs)) ↔ (wtOf W (Tm.node x as).flat < wtOf W (Tm.node y bs).flat ∨ (wtOf W (Tm.node x as).flat = wtOf W (Tm.node y bs).flat ∧ (rk1 W x < rk1 W y ∨ (¬ rk1 W x < rk1 W y ∧ x = y ∧ kboL ar W as bs = true)))) := by
  rw [kbo_node, oft_gnd h1]
  have hx := h1.node.1
  have hy := h2.node.1
  simp only [Bool.true_eq_false, if_false]
  by_cases c1 : wtOf W (Tm.node x as).flat < wtOf W (Tm.node y bs).flat
  · simp [c1]
  · rw [if_neg c1]
    by_cases c2 : wtOf W (Tm.node y bs).flat < wtOf W (Tm.node x as).flat
    · rw [if_pos (.inl c2)]
      constructor
      · intro h; omega
      · rintro (h | h)
        · exact absurd h c1
        · omega
    · rw [if_neg (by omega), if_neg (by omega)]
      have c3 : wtOf W (Tm.node x as).flat = wtOf W (Tm.node y bs).flat := by omega
      by_cases c4 : rk1 W x < rk1 W y
      · rw [if_pos c4]; exact ⟨fun _ => .inr ⟨c3, .inl c4⟩, fun _ => by omega⟩
      · rw [if_neg c4]
        by_cases c5 : x = y ∧ kboL ar W as bs = true
        · rw [if_pos c5]; exact ⟨fun _ => .inr ⟨c3, .inr ⟨c4, c5⟩⟩, fun _ => by omega⟩
        · rw [if_neg c5]
          constructor
          · intro h; omega
          · rintro (h | ⟨_, h | ⟨_, h⟩⟩)
            · exact absurd h c1
            · exact absurd h c4
            · exact absurd h c5
mutual
theorem kbo_tot {ar : List Int} {W : Wt} (hi : RkInj ar W) : ∀ (s t : Tm), s.Ok ar → t.Ok ar → Gnd s.flat → Gnd t.flat → s.flat ≠ t.flat → (0 < kbo ar W s t ↔ ¬ 0 < kbo ar W t s)
  | .node x as, .node y bs, hs, ht, gs, gt, hne => by
    rw [kbo_gnd gs gt, kbo_gnd gt gs]
    obtain ⟨k1, k2⟩ := Ok_node.1 hs
    obtain ⟨k3, k4⟩ := Ok_node.1 ht
    have hx := gs.node.1
    have hy := gt.node.1
    by_cases hxy : x = y
    · subst hxy
      have hl : as.length = bs.length := by rw [k1] at k3; exact Option.some.inj k3
      have hf : flatL as ≠ flatL bs := fun e => hne (by rw [flat_node, flat_node, e])
      have := kboL_tot hi as bs hl k2 k4 gs.node.2 gt.node.2 hf
      cases h1 : kboL ar W as bs <;> cases h2 : kboL ar W bs as <;> simp [h1, h2] at this ⊢ <;> omega
    · have h3 : rk1 W x ≠ rk1 W y := fun e => hxy (hi x y hx (arI_range k1 hx) hy (arI_range k3 hy) e)
      have h4 : ¬ y = x := fun e => hxy e.symm
      simp only [hxy, h4, false_and, and_false, or_false]
      omega
theorem kboL_tot {ar : List Int} {W : Wt} (hi : RkInj ar W) : ∀ (as bs : List Tm), as.length = bs.length → OkL ar as → OkL ar bs → Gnd (flatL as) → Gnd (flatL bs) → flatL as ≠ flatL bs → (kboL ar W as bs = true ↔ ¬ kboL ar W bs as = true)
  | [], [], _, _, _, _, _, hne => absurd rfl hne
  | [], b :: bs, hl, _, _, _, _, _ => by simp at hl
  | a :: as, [], hl, _, _, _, _, _ => by simp at hl
  | a :: as, b :: bs, hl, ha, hb, ga, gb, hne => by
    obtain ⟨k1, k2⟩ := OkL_cons.1 ha
    obtain ⟨k3, k4⟩ := OkL_cons.1 hb
    rw [kboL_cons, kboL_cons]
    by_cases e : a.flat = b.flat
    · rw [if_pos e, if_pos e.symm]
      exact kboL_tot hi as bs (by simpa using hl) k2 k4 ga.cons.2 gb.cons.2 (fun e2 => hne (by rw [flatL_cons, flatL_cons, e, e2]))
    · rw [if_neg e, if_neg (fun e2 => e e2.symm)]
      have := kbo_tot hi a b k1 k3 ga.cons.1 gb.cons.1 e
      simp only [decide_eq_true_eq]
      exact this
end
theorem kbo_light {ar : List Int} {W : Wt} {s t : Tm} (gs : Gnd s.flat) (gt : Gnd t.flat) (h : wtOf W s.flat < wtOf W t.flat) : 0 < kbo ar W s t := by
  cases s; cases t
  exact (kbo_gnd gs gt).2 (.inl h)
theorem wtOf_append (W : Wt) (s t : List Int) : wtOf W (s ++ t) = wtOf W s + wtOf W t := by
  unfold wtOf; rw [List.map_append, List.sum_append]
theorem wtOf_cons (W : Wt) (x : Int) (t : List Int) : wtOf W (x :: t) = wt1 W x + wtOf W t := by
  unfold wtOf; simp
/-- A term without variables holds a constant: it weighs no less than the lightest. -/
theorem wt_leaf {W : Wt} {m : Int} (hm : 0 ≤ m) {ar : List Int} (hc : ∀ x : Int, 0 ≤ x → arI ar x = some 0 → m ≤ wt1 W x) (hp : ∀ x : Int, 0 ≤ x → x < ar.length → 0 ≤ wt1 W x) :
    ∀ (u : Tm), u.Ok ar → Gnd u.flat → m ≤ wtOf W u.flat
  | .node x [], h, g => by
    rw [flat_node, flatL_nil, wtOf_cons]
    have := hc x g.node.1 (Ok_node.1 h).1
    show m ≤ wt1 W x + 0
    omega
  | .node x (a :: as), h, g => by
    obtain ⟨h1, h2⟩ := Ok_node.1 h
    obtain ⟨h3, h4⟩ := OkL_cons.1 h2
    have g2 := g.node.2
    have h5 := wt_leaf hm hc hp a h3 g2.cons.1
    have h6 := hp x g.node.1 (arI_range h1 g.node.1)
    have h7 : ∀ (t : List Int), (∀ y ∈ t, 0 ≤ y ∧ y < ar.length) → 0 ≤ wtOf W t := by
      intro t
      induction t with
      | nil => intro _; exact Int.le_refl 0
      | cons y t ih =>
        intro hy
        rw [wtOf_cons]
        have := hp y (hy y (List.mem_cons_self ..)).1 (hy y (List.mem_cons_self ..)).2
        have := ih fun z hz => hy z (List.mem_cons_of_mem _ hz)
        omega
    have h8 : 0 ≤ wtOf W (flatL as) := h7 _ fun y hy => ⟨g2.cons.2 y hy, flat_lt as h4 y hy⟩
    rw [flat_node, flatL_cons, wtOf_cons, wtOf_append]
    omega
where
  flat_lt {ar : List Int} : ∀ (as : List Tm), OkL ar as → ∀ y ∈ flatL as, y < ar.length
    | [], _, y, hy => by rw [flatL_nil] at hy; cases hy
    | .node x bs :: as, h, y, hy => by
      obtain ⟨h1, h2⟩ := OkL_cons.1 h
      obtain ⟨h3, h4⟩ := Ok_node.1 h1
      rw [flatL_cons, flat_node] at hy
      rcases List.mem_append.1 hy with hy | hy
      · rcases List.mem_cons.1 hy with rfl | hy
        · exact arI_lt h3
        · exact flat_lt bs h4 y hy
      · exact flat_lt as h2 y hy

end Go.Proofs.Ytleahogikppepaa
