/- Plain: the path order on terms without variables: any two are told apart, and it goes on. -/
import Derived.Test.YtejmlbcafemieaaMLpoA
namespace Go.Proofs.Ytejmlbcafemieaa
set_option linter.unusedVariables false

open Classical in
theorem lex_cons {W : Tm → Tm → Nat} {a b : Tm} {ts ss : List Tm} : lexG W (a :: ts) (b :: ss) = true ↔ (a = b ∧ lexG W ts ss = true) ∨ (a ≠ b ∧ 0 < W a b) := by
  rw [show lexG W (a :: ts) (b :: ss) = (if a = b then lexG W ts ss else decide (0 < W a b)) by rw [lexG]]
  by_cases h : a = b
  · rw [if_pos h]
    exact ⟨fun k => .inl ⟨h, k⟩, fun k => k.elim (fun k => k.2) (fun k => absurd h k.1)⟩
  · rw [if_neg h, decide_eq_true_iff]
    exact ⟨fun k => .inr ⟨h, k⟩, fun k => k.elim (fun k => absurd k.1 h) (fun k => k.2)⟩
theorem lex_nil {W : Tm → Tm → Nat} {ss : List Tm} : lexG W [] ss = false := by simp [lexG]
theorem lex_self {W : Tm → Tm → Nat} : ∀ (ts : List Tm), ¬ lexG W ts ts = true
  | [], h => by rw [lex_nil] at h; cases h
  | a :: ts, h => by
    rcases lex_cons.1 h with h | h
    · exact lex_self ts h.2
    · exact h.1 rfl
theorem lex_trans {W : Tm → Tm → Nat} : ∀ {us ts ss : List Tm}, us.length = ts.length → ts.length = ss.length → (∀ a ∈ us, ∀ b ∈ ts, ∀ c ∈ ss, 0 < W a b → 0 < W b c → a ≠ c ∧ 0 < W a c) → lexG W us ts = true → lexG W ts ss = true → lexG W us ss = true
  | [], _, _, _, _, _, h, _ => by rw [lex_nil] at h; cases h
  | a :: us, [], _, h1, _, _, _, _ => by simp at h1
  | a :: us, b :: ts, [], _, h2, _, _, _ => by simp at h2
  | a :: us, b :: ts, c :: ss, h1, h2, hT, k1, k2 => by
    have h1' : us.length = ts.length := by simpa using h1
    have h2' : ts.length = ss.length := by simpa using h2
    rcases lex_cons.1 k1 with ⟨e1, k1⟩ | ⟨n1, k1⟩
    · rcases lex_cons.1 k2 with ⟨e2, k2⟩ | ⟨n2, k2⟩
      · exact lex_cons.2 (.inl ⟨e1.trans e2, lex_trans h1' h2' (fun x hx y hy z hz => hT x (List.mem_cons_of_mem _ hx) y (List.mem_cons_of_mem _ hy) z (List.mem_cons_of_mem _ hz)) k1 k2⟩)
      · subst e1; exact lex_cons.2 (.inr ⟨n2, k2⟩)
    · rcases lex_cons.1 k2 with ⟨e2, k2⟩ | ⟨n2, k2⟩
      · subst e2; exact lex_cons.2 (.inr ⟨n1, k1⟩)
      · have := hT a List.mem_cons_self b List.mem_cons_self c List.mem_cons_self k1 k2
        exact lex_cons.2 (.inr this)
theorem lex_tot {W : Tm → Tm → Nat} : ∀ {ts ss : List Tm}, ts.length = ss.length → (∀ a ∈ ts, ∀ b ∈ ss, a ≠ b → 0 < W a b ∨ 0 < W b a) → ts ≠ ss → lexG W ts ss = true ∨ lexG W ss ts = true
  | [], [], _, _, hne => absurd rfl hne
  | [], b :: ss, h, _, _ => by simp at h
  | a :: ts, [], h, _, _ => by simp at h
  | a :: ts, b :: ss, h, hT, hne => by
    by_cases e : a = b
    · subst e
      have := lex_tot (W := W) (ts := ts) (ss := ss) (by simpa using h) (fun x hx y hy => hT x (List.mem_cons_of_mem _ hx) y (List.mem_cons_of_mem _ hy)) (fun e => hne (by rw [e]))
      exact this.imp (fun k => lex_cons.2 (.inl ⟨rfl, k⟩)) (fun k => lex_cons.2 (.inl ⟨rfl, k⟩))
    · exact (hT a List.mem_cons_self b List.mem_cons_self e).imp (fun k => lex_cons.2 (.inr ⟨e, k⟩)) (fun k => lex_cons.2 (.inr ⟨fun e2 => e e2.symm, k⟩))

/-- Terms without variables, right for the arities, of symbols whose ranks tell them apart. -/
structure Dom (ar : List Int) (rk : Int → Int) : Prop where
  inj : ∀ x y : Int, 0 ≤ x → x < ar.length → 0 ≤ y → y < ar.length → rk x = rk y → x = y
def InD (ar : List Int) (t : Tm) : Prop := t.Ok ar ∧ ∀ x ∈ t.flat, 0 ≤ x
theorem InD.hd {ar : List Int} {t : Tm} (h : InD ar t) : 0 ≤ t.hd ∧ t.hd < ar.length := by
  cases t with
  | node x as =>
    have h0 : 0 ≤ x := h.2 x (by rw [flat_node]; exact List.mem_cons_self)
    exact ⟨h0, arI_lt (Ok_node.1 h.1).1⟩
theorem flat_sub {a : Tm} : ∀ {as : List Tm}, a ∈ as → ∀ x ∈ a.flat, x ∈ flatL as
  | [], h, _, _ => by cases h
  | b :: as, h, x, hx => by
    rw [flatL_cons]
    rcases List.mem_cons.1 h with rfl | h
    · exact List.mem_append_left _ hx
    · exact List.mem_append_right _ (flat_sub h x hx)
theorem InD.arg {ar : List Int} {t a : Tm} (h : InD ar t) (ha : a ∈ t.as) : InD ar a := by
  cases t with
  | node x as =>
    refine ⟨OkL_iff.1 (Ok_node.1 h.1).2 a ha, fun y hy => h.2 y ?_⟩
    rw [flat_node]
    exact List.mem_cons_of_mem _ (flat_sub ha y hy)
theorem InD.len {ar : List Int} {t s : Tm} (h : InD ar t) (k : InD ar s) (e : t.hd = s.hd) : t.as.length = s.as.length := by
  cases t with
  | node x as =>
    cases s with
    | node y bs =>
      have e' : x = y := e
      subst e'
      have h1 := (Ok_node.1 h.1).1
      have h2 := (Ok_node.1 k.1).1
      rw [h1] at h2
      exact Option.some.inj h2
theorem tm_ext {t s : Tm} (h : t.hd = s.hd) (k : t.as = s.as) : t = s := by
  cases t; cases s
  have h' : _ = _ := h
  have k' : _ = _ := k
  simp only [Tm.hd, Tm.as] at h' k'
  rw [h', k']
section
variable {ar : List Int} {rk : Int → Int}
def G (rk : Int → Int) (t s : Tm) : Prop := 0 < lpoW rk true t s
theorem G_iff {t s : Tm} (ht : 0 ≤ t.hd) (hs : 0 ≤ s.hd) : G rk t s ↔ (∃ a ∈ t.as, a = s ∨ G rk a s) ∨ ((∀ b ∈ s.as, G rk t b) ∧ ((t.hd = s.hd ∧ lexG (lpoW rk true) t.as s.as = true) ∨ (t.hd ≠ s.hd ∧ rk s.hd < rk t.hd))) := by
  have hA : argG (lpoW rk true) t.as s = true ↔ ∃ a ∈ t.as, a = s ∨ G rk a s := by
    unfold argG G
    simp only [List.any_eq_true, Bool.or_eq_true, decide_eq_true_eq]
  have hO : overG (lpoW rk true) t s.as = true ↔ ∀ b ∈ s.as, G rk t b := by
    unfold overG G
    simp only [List.all_eq_true, decide_eq_true_eq]
  unfold G
  rw [lpoW_eq]
  unfold lpoB
  rw [if_neg (by omega)]
  by_cases h1 : argG (lpoW rk true) t.as s = true
  · rw [if_pos h1]
    exact ⟨fun _ => .inl (hA.1 h1), fun _ => by omega⟩
  · rw [if_neg h1, if_neg (by omega)]
    have h1' : ¬ ∃ a ∈ t.as, a = s ∨ 0 < lpoW rk true a s := fun h => h1 (hA.2 h)
    by_cases h2 : t.hd = s.hd
    · rw [if_pos h2]
      simp only [if_true]
      by_cases h3 : (overG (lpoW rk true) t s.as && lexG (lpoW rk true) t.as s.as) = true
      · rw [if_pos h3]
        rw [Bool.and_eq_true] at h3
        exact ⟨fun _ => .inr ⟨hO.1 h3.1, .inl ⟨h2, h3.2⟩⟩, fun _ => by omega⟩
      · rw [if_neg h3]
        constructor
        · intro h; omega
        · rintro (h | ⟨h, ⟨_, h4⟩ | ⟨h4, _⟩⟩)
          · exact absurd h h1'
          · exact absurd (by rw [Bool.and_eq_true]; exact ⟨hO.2 h, h4⟩) h3
          · exact absurd h2 h4
    · rw [if_neg h2]
      by_cases h3 : rk s.hd < rk t.hd ∧ overG (lpoW rk true) t s.as = true
      · rw [if_pos h3]
        exact ⟨fun _ => .inr ⟨hO.1 h3.2, .inr ⟨h2, h3.1⟩⟩, fun _ => by omega⟩
      · rw [if_neg h3]
        constructor
        · intro h; omega
        · rintro (h | ⟨h, ⟨h4, _⟩ | ⟨_, h4⟩⟩)
          · exact absurd h h1'
          · exact absurd h4 h2
          · exact absurd ⟨h4, hO.2 h⟩ h3
theorem G_arg {t a : Tm} (ht : InD ar t) (ha : a ∈ t.as) : G rk t a := (G_iff ht.hd.1 (ht.arg ha).hd.1).2 (.inl ⟨a, ha, .inl rfl⟩)
theorem G_tot (hD : Dom ar rk) : ∀ (n : Nat) (t s : Tm), t.sz + s.sz ≤ n → InD ar t → InD ar s → t ≠ s → G rk t s ∨ G rk s t
  | 0, t, s, hn, _, _, _ => by have := flat_pos t; unfold Tm.sz at hn; omega
  | n + 1, t, s, hn, ht, hs, hne => by
    by_cases h1 : ∃ a ∈ t.as, a = s ∨ G rk a s
    · exact .inl ((G_iff ht.hd.1 hs.hd.1).2 (.inl h1))
    by_cases h2 : ∃ b ∈ s.as, b = t ∨ G rk b t
    · exact .inr ((G_iff hs.hd.1 ht.hd.1).2 (.inl h2))
    have k1 : ∀ a ∈ t.as, G rk s a := fun a ha => by
      have hne2 : a ≠ s := fun e => h1 ⟨a, ha, .inl e⟩
      rcases G_tot hD n a s (by have := sz_arg ha; omega) (ht.arg ha) hs hne2 with h | h
      · exact absurd ⟨a, ha, .inr h⟩ h1
      · exact h
    have k2 : ∀ b ∈ s.as, G rk t b := fun b hb => by
      have hne2 : b ≠ t := fun e => h2 ⟨b, hb, .inl e⟩
      rcases G_tot hD n b t (by have := sz_arg hb; omega) (hs.arg hb) ht hne2 with h | h
      · exact absurd ⟨b, hb, .inr h⟩ h2
      · exact h
    by_cases e : t.hd = s.hd
    · have hl := ht.len hs e
      have hne3 : t.as ≠ s.as := fun e2 => hne (tm_ext e e2)
      rcases lex_tot (W := lpoW rk true) hl (fun a ha b hb hab => G_tot hD n a b (by have := sz_arg ha; have := sz_arg hb; omega) (ht.arg ha) (hs.arg hb) hab) hne3 with h | h
      · exact .inl ((G_iff ht.hd.1 hs.hd.1).2 (.inr ⟨k2, .inl ⟨e, h⟩⟩))
      · exact .inr ((G_iff hs.hd.1 ht.hd.1).2 (.inr ⟨k1, .inl ⟨e.symm, h⟩⟩))
    · have hr : rk t.hd ≠ rk s.hd := fun h => e (hD.inj _ _ ht.hd.1 ht.hd.2 hs.hd.1 hs.hd.2 h)
      rcases Int.lt_or_gt_of_ne hr with h | h
      · exact .inr ((G_iff hs.hd.1 ht.hd.1).2 (.inr ⟨k1, .inr ⟨fun e2 => e e2.symm, h⟩⟩))
      · exact .inl ((G_iff ht.hd.1 hs.hd.1).2 (.inr ⟨k2, .inr ⟨e, h⟩⟩))
theorem G_both : ∀ (n : Nat), (∀ u t s : Tm, u.sz + t.sz + s.sz ≤ n → InD ar u → InD ar t → InD ar s → G rk u t → G rk t s → G rk u s) ∧ (∀ t : Tm, 3 * t.sz ≤ n → InD ar t → ¬ G rk t t)
  | 0 => ⟨fun u t s h => by have := flat_pos u; unfold Tm.sz at h; omega, fun t h => by have := flat_pos t; unfold Tm.sz at h; omega⟩
  | n + 1 => by
    obtain ⟨hT, hI⟩ := G_both n
    have hAs : ∀ a b : Tm, InD ar a → InD ar b → 2 * a.sz + b.sz ≤ n → 2 * b.sz + a.sz ≤ n ∨ a.sz < b.sz → G rk a b → G rk b a → False := fun a b ha hb h1 h2 k1 k2 => by
      rcases Nat.lt_or_ge a.sz b.sz with h | h
      · exact hI a (by omega) ha (hT a b a (by omega) ha hb ha k1 k2)
      · exact hI b (by omega) hb (hT b a b (by omega) hb ha hb k2 k1)
    refine ⟨fun u t s h hu ht hs k1 k2 => ?_, fun t h ht k => ?_⟩
    · rcases (G_iff hu.hd.1 ht.hd.1).1 k1 with ⟨a, ha, h1⟩ | ⟨h1, h2⟩
      · refine (G_iff hu.hd.1 hs.hd.1).2 (.inl ⟨a, ha, .inr ?_⟩)
        rcases h1 with rfl | h1
        · exact k2
        · exact hT a t s (by have := sz_arg ha; omega) (hu.arg ha) ht hs h1 k2
      · rcases (G_iff ht.hd.1 hs.hd.1).1 k2 with ⟨b, hb, h3⟩ | ⟨h3, h4⟩
        · rcases h3 with rfl | h3
          · exact h1 b hb
          · exact hT u b s (by have := sz_arg hb; omega) hu (ht.arg hb) hs (h1 b hb) h3
        · have h5 : ∀ c ∈ s.as, G rk u c := fun c hc => hT u t c (by have := sz_arg hc; omega) hu ht (hs.arg hc) k1 (h3 c hc)
          refine (G_iff hu.hd.1 hs.hd.1).2 (.inr ⟨h5, ?_⟩)
          rcases h2 with ⟨e1, l1⟩ | ⟨e1, l1⟩
          · rcases h4 with ⟨e2, l2⟩ | ⟨e2, l2⟩
            · refine .inl ⟨e1.trans e2, lex_trans (hu.len ht e1) (ht.len hs e2) (fun a ha b hb c hc q1 q2 => ⟨fun e => ?_, ?_⟩) l1 l2⟩
              · subst e
                have z1 := sz_arg ha
                have z2 := sz_arg hb
                have z3 := sz_arg hc
                exact hAs a b (hu.arg ha) (ht.arg hb) (by omega) (by omega) q1 q2
              · exact hT a b c (by have := sz_arg ha; have := sz_arg hb; have := sz_arg hc; omega) (hu.arg ha) (ht.arg hb) (hs.arg hc) q1 q2
            · exact .inr ⟨by rw [e1]; exact e2, by rw [e1]; exact l2⟩
          · rcases h4 with ⟨e2, l2⟩ | ⟨e2, l2⟩
            · exact .inr ⟨by rw [← e2]; exact e1, by rw [← e2]; exact l1⟩
            · exact .inr ⟨fun e => by rw [e] at l1; omega, by omega⟩
    · rcases (G_iff ht.hd.1 ht.hd.1).1 k with ⟨a, ha, h1⟩ | ⟨_, ⟨_, h2⟩ | ⟨h2, _⟩⟩
      · have hz := sz_arg ha
        rcases h1 with rfl | h1
        · omega
        · exact hI a (by omega) (ht.arg ha) (hT a t a (by omega) (ht.arg ha) ht (ht.arg ha) h1 (G_arg ht ha))
      · exact lex_self _ h2
      · exact h2 rfl
theorem G_trans {u t s : Tm} (hu : InD ar u) (ht : InD ar t) (hs : InD ar s) (h : G rk u t) (k : G rk t s) : G rk u s := (G_both _).1 u t s (Nat.le_refl _) hu ht hs h k
theorem G_irr {t : Tm} (ht : InD ar t) : ¬ G rk t t := (G_both _).2 t (Nat.le_refl _) ht
theorem G_asym {t s : Tm} (ht : InD ar t) (hs : InD ar s) (h : G rk t s) : ¬ G rk s t := fun k => G_irr ht (G_trans ht hs ht h k)
/-- Of three one is greatest. -/
theorem G_top {a b c : Tm} (ha : InD ar a) (hb : InD ar b) (hc : InD ar c) : (¬ G rk a a ∧ ¬ G rk b a ∧ ¬ G rk c a) ∨ (¬ G rk a b ∧ ¬ G rk b b ∧ ¬ G rk c b) ∨ (¬ G rk a c ∧ ¬ G rk b c ∧ ¬ G rk c c) := by
  by_cases h1 : G rk b a
  · by_cases h2 : G rk c b
    · exact .inr (.inr ⟨G_asym hc ha (G_trans hc hb ha h2 h1), G_asym hc hb h2, G_irr hc⟩)
    · exact .inr (.inl ⟨G_asym hb ha h1, G_irr hb, h2⟩)
  · by_cases h2 : G rk c a
    · by_cases h3 : G rk b c
      · exact absurd (G_trans hb hc ha h3 h2) h1
      · exact .inr (.inr ⟨G_asym hc ha h2, h3, G_irr hc⟩)
    · exact .inl ⟨G_irr ha, h1, h2⟩
end

end Go.Proofs.Ytejmlbcafemieaa
