/- Plain: the path orders, by words and by bags: they go on, none is less than itself, and they stay where terms are filled, and inside of a term. -/
import Derived.Test.YtleahogikppepaaMLpoA
import Derived.Test.YtleahogikppepaaMSub
namespace Go.Proofs.Ytleahogikppepaa
set_option linter.unusedVariables false

open Classical in
/-- How often something is in a bag. -/
noncomputable def cn (b : Tm) : List Tm → Nat
  | [] => 0
  | a :: as => (if a = b then 1 else 0) + cn b as
theorem cn_cons_same (b : Tm) (as : List Tm) : cn b (b :: as) = 1 + cn b as := by rw [cn, if_pos rfl]
theorem cn_cons_other {a b : Tm} (as : List Tm) (h : a ≠ b) : cn b (a :: as) = cn b as := by rw [cn, if_neg h]; omega
theorem cn_append (b : Tm) : ∀ (as bs : List Tm), cn b (as ++ bs) = cn b as + cn b bs
  | [], bs => by simp [cn]
  | a :: as, bs => by rw [List.cons_append, cn, cn, cn_append b as bs]; omega
theorem cn_pos {b : Tm} : ∀ {as : List Tm}, 0 < cn b as ↔ b ∈ as
  | [] => by simp [cn]
  | a :: as => by
    by_cases h : a = b
    · subst h; rw [cn_cons_same]; exact ⟨fun _ => List.mem_cons_self, fun _ => by omega⟩
    · rw [cn_cons_other as h, cn_pos]
      constructor
      · exact fun k => List.mem_cons_of_mem _ k
      · exact fun k => (List.mem_cons.1 k).resolve_left fun e => h e.symm
theorem cn_rmv {b : Tm} : ∀ {as : List Tm} (c : Tm), b ∈ as → cn c as = cn c (rmv b as) + cn c [b]
  | [], c, h => by cases h
  | a :: as, c, h => by
    by_cases e : a = b
    · subst e
      rw [show rmv a (a :: as) = as by rw [rmv, if_pos rfl]]
      rw [cn]; simp only [cn]; omega
    · rw [show rmv b (a :: as) = a :: rmv b as by rw [rmv, if_neg e]]
      have := cn_rmv c ((List.mem_cons.1 h).resolve_left fun e2 => e e2.symm)
      rw [cn, cn]
      omega
theorem bagTwo_yes {b : Tm} {left ss : List Tm} (h : b ∈ left) : bagTwo left (b :: ss) = bagTwo (rmv b left) ss := by rw [bagTwo, if_pos h]
theorem bagTwo_no {b : Tm} {left ss : List Tm} (h : ¬ b ∈ left) : bagTwo left (b :: ss) = ((bagTwo left ss).1, b :: (bagTwo left ss).2) := by rw [bagTwo, if_neg h]
theorem bagTwo_nil (left : List Tm) : bagTwo left [] = (left, []) := by rw [bagTwo]
theorem cn_two (c : Tm) : ∀ (ss left : List Tm), cn c (bagTwo left ss).1 = cn c left - cn c ss ∧ cn c (bagTwo left ss).2 = cn c ss - cn c left
  | [], left => by rw [bagTwo_nil]; simp [cn]
  | b :: ss, left => by
    have hb : cn c (b :: ss) = cn c [b] + cn c ss := by simp only [cn]; omega
    by_cases h : b ∈ left
    · rw [bagTwo_yes h]
      obtain ⟨h1, h2⟩ := cn_two c ss (rmv b left)
      have h3 := cn_rmv c h
      omega
    · rw [bagTwo_no h]
      obtain ⟨h1, h2⟩ := cn_two c ss left
      show cn c (bagTwo left ss).1 = cn c left - cn c (b :: ss) ∧ cn c (b :: (bagTwo left ss).2) = cn c (b :: ss) - cn c left
      by_cases e : b = c
      · subst e
        have h0 : cn b left = 0 := by
          rcases Nat.eq_zero_or_pos (cn b left) with h0 | h0
          · exact h0
          · exact absurd (cn_pos.1 h0) h
        have h4 : cn b (b :: (bagTwo left ss).2) = 1 + cn b (bagTwo left ss).2 := cn_cons_same ..
        have h5 : cn b [b] = 1 := by rw [cn_cons_same]; rfl
        exact ⟨by omega, by omega⟩
      · have h4 : cn c (b :: (bagTwo left ss).2) = cn c (bagTwo left ss).2 := cn_cons_other _ e
        have h5 : cn c [b] = 0 := by rw [cn_cons_other _ e]; rfl
        exact ⟨by omega, by omega⟩
/-- One bag is greater than another one. -/
theorem bag_iff {W : Tm → Tm → Nat} {ts ss : List Tm} : bagG W ts ss = true ↔ (∀ b, cn b ts < cn b ss → ∃ a, cn a ss < cn a ts ∧ 0 < W a b) ∧ ∃ a, cn a ss < cn a ts := by
  unfold bagG allG anyG
  rw [Bool.and_eq_true, List.all_eq_true, decide_eq_true_iff]
  simp only [List.any_eq_true, decide_eq_true_eq]
  have h1 : ∀ a, a ∈ (bagTwo ts ss).1 ↔ cn a ss < cn a ts := fun a => by rw [← cn_pos, (cn_two a ss ts).1]; omega
  have h2 : ∀ b, b ∈ (bagTwo ts ss).2 ↔ cn b ts < cn b ss := fun b => by rw [← cn_pos, (cn_two b ss ts).2]; omega
  constructor
  · rintro ⟨k1, k2⟩
    refine ⟨fun b hb => ?_, ?_⟩
    · obtain ⟨a, ha, hW⟩ := k1 b ((h2 b).2 hb)
      exact ⟨a, (h1 a).1 ha, hW⟩
    · obtain ⟨a, ha⟩ := List.exists_mem_of_length_pos k2
      exact ⟨a, (h1 a).1 ha⟩
  · rintro ⟨k1, a, ha⟩
    refine ⟨fun b hb => ?_, List.length_pos_of_mem ((h1 a).2 ha)⟩
    obtain ⟨c, hc, hW⟩ := k1 b ((h2 b).1 hb)
    exact ⟨c, (h1 c).2 hc, hW⟩
/-- Of some of a list, one that no other one of them is above. -/
theorem max_of {R : Tm → Tm → Prop} {S : Tm → Prop} : ∀ {l : List Tm}, (∀ a ∈ l, ¬ R a a) → (∀ a ∈ l, ∀ b ∈ l, ∀ c ∈ l, R a b → R b c → R a c) → (∃ x ∈ l, S x) → ∃ x ∈ l, S x ∧ ∀ y ∈ l, S y → ¬ R y x
  | [], _, _, ⟨x, h, _⟩ => by cases h
  | z :: l, hI, hT, hx => by
    by_cases h : ∃ x ∈ l, S x
    · obtain ⟨x, h1, h2, h3⟩ := max_of (fun a ha => hI a (List.mem_cons_of_mem _ ha)) (fun a ha b hb c hc => hT a (List.mem_cons_of_mem _ ha) b (List.mem_cons_of_mem _ hb) c (List.mem_cons_of_mem _ hc)) h
      by_cases hz : S z ∧ R z x
      · refine ⟨z, List.mem_cons_self, hz.1, fun y hy hs hr => ?_⟩
        rcases List.mem_cons.1 hy with e | hy
        · subst e; exact hI y List.mem_cons_self hr
        · exact h3 y hy hs (hT y (List.mem_cons_of_mem _ hy) z List.mem_cons_self x (List.mem_cons_of_mem _ h1) hr hz.2)
      · refine ⟨x, List.mem_cons_of_mem _ h1, h2, fun y hy hs hr => ?_⟩
        rcases List.mem_cons.1 hy with e | hy
        · subst e; exact hz ⟨hs, hr⟩
        · exact h3 y hy hs hr
    · obtain ⟨x, hx1, hx2⟩ := hx
      rcases List.mem_cons.1 hx1 with e | hx1
      · subst e
        refine ⟨x, List.mem_cons_self, hx2, fun y hy hs hr => ?_⟩
        rcases List.mem_cons.1 hy with e | hy
        · subst e; exact hI y List.mem_cons_self hr
        · exact h ⟨y, hy, hs⟩
      · exact absurd ⟨x, hx1, hx2⟩ h
theorem cn_mem {a : Tm} {l : List Tm} {n : Nat} (h : n < cn a l) : a ∈ l := cn_pos.1 (by omega)
theorem bag_trans {W : Tm → Tm → Nat} {M N P : List Tm} (hI : ∀ a ∈ M ++ N ++ P, ¬ 0 < W a a) (hT : ∀ a ∈ M ++ N ++ P, ∀ b ∈ M ++ N ++ P, ∀ c ∈ M ++ N ++ P, 0 < W a b → 0 < W b c → 0 < W a c)
    (h1 : bagG W M N = true) (h2 : bagG W N P = true) : bagG W M P = true := by
  rw [bag_iff] at h1 h2 ⊢
  have mM : ∀ {a : Tm} {n : Nat}, n < cn a M → a ∈ M ++ N ++ P := fun h => List.mem_append_left _ (List.mem_append_left _ (cn_mem h))
  have mN : ∀ {a : Tm} {n : Nat}, n < cn a N → a ∈ M ++ N ++ P := fun h => List.mem_append_left _ (List.mem_append_right _ (cn_mem h))
  have mP : ∀ {a : Tm} {n : Nat}, n < cn a P → a ∈ M ++ N ++ P := fun h => List.mem_append_right _ (cn_mem h)
  have key : ∀ b, cn b M < cn b P → ∃ a, cn a P < cn a M ∧ 0 < W a b := by
    intro b hb
    obtain ⟨x, hx, ⟨hxb, hS⟩, hmax⟩ := max_of (R := fun a b => 0 < W a b) (S := fun x => (x = b ∨ 0 < W x b) ∧ (cn x M < cn x N ∨ cn x N < cn x P)) hI hT ⟨b, mP hb, .inl rfl, by omega⟩
    have up : ∀ a, a ∈ M ++ N ++ P → 0 < W a x → 0 < W a b := fun a ha hax => by
      rcases hxb with rfl | h
      · exact hax
      · exact hT a ha x hx b (mP hb) hax h
    rcases hS with hS | hS
    · obtain ⟨a, ha, hax⟩ := h1.1 x hS
      have hab := up a (mM ha) hax
      by_cases h : cn a P < cn a M
      · exact ⟨a, h, hab⟩
      · exact absurd hax (hmax a (mM ha) ⟨.inr hab, .inr (by omega)⟩)
    · obtain ⟨a, ha, hax⟩ := h2.1 x hS
      have hab := up a (mN ha) hax
      by_cases h : cn a P < cn a M
      · exact ⟨a, h, hab⟩
      · exact absurd hax (hmax a (mN ha) ⟨.inr hab, .inl (by omega)⟩)
  refine ⟨key, ?_⟩
  apply Classical.byContradiction
  intro hno
  have hle : ∀ a, cn a M ≤ cn a P := fun a => by
    rcases Nat.lt_or_ge (cn a P) (cn a M) with h | h
    · exact absurd ⟨a, h⟩ hno
    · exact h
  have hge : ∀ a, cn a P ≤ cn a M := fun a => by
    rcases Nat.lt_or_ge (cn a M) (cn a P) with h | h
    · obtain ⟨c, hc, _⟩ := key a h; exact absurd ⟨c, hc⟩ hno
    · exact h
  obtain ⟨a0, ha0⟩ := h1.2
  obtain ⟨x, hx, hS, hmax⟩ := max_of (R := fun a b => 0 < W a b) (S := fun x => cn x M ≠ cn x N) hI hT ⟨a0, mM ha0, by omega⟩
  rcases Nat.lt_or_gt_of_ne hS with h | h
  · obtain ⟨a, ha, hax⟩ := h1.1 x h
    exact hmax a (mM ha) (by omega) hax
  · obtain ⟨a, ha, hax⟩ := h2.1 x (by have := hle x; omega)
    exact hmax a (mN ha) (by have := hge a; have := hle a; omega) hax
theorem bag_irr {W : Tm → Tm → Nat} {M : List Tm} : ¬ bagG W M M = true := by
  rw [bag_iff]; rintro ⟨_, a, h⟩; omega
theorem bag_ctx {W : Tm → Tm → Nat} {l r : List Tm} {t s : Tm} (h : 0 < W t s) (hne : t ≠ s) : bagG W (l ++ t :: r) (l ++ s :: r) = true := by
  rw [bag_iff]
  have e1 : ∀ a, cn a (l ++ t :: r) = cn a (l ++ r) + cn a [t] := fun a => by rw [cn_append, cn_append]; simp only [cn]; omega
  have e2 : ∀ a, cn a (l ++ s :: r) = cn a (l ++ r) + cn a [s] := fun a => by rw [cn_append, cn_append]; simp only [cn]; omega
  have ht : cn t (l ++ s :: r) < cn t (l ++ t :: r) := by
    rw [e1, e2, cn_cons_same, cn_cons_other _ (fun e => hne e.symm)]; omega
  refine ⟨fun b hb => ?_, t, ht⟩
  rw [e1, e2] at hb
  have hs : s = b := Classical.byContradiction fun e => by rw [cn_cons_other _ e] at hb; simp only [cn] at hb; omega
  subst hs
  exact ⟨t, ht, h⟩
/-- A lesser bag is shorter. -/
theorem cn_len_le : ∀ {A B : List Tm}, (∀ x, cn x A ≤ cn x B) → A.length ≤ B.length
  | [], B, _ => by simp
  | a :: A, B, h => by
    have hm : a ∈ B := cn_mem (n := 0) (by have := h a; rw [cn_cons_same] at this; omega)
    have h2 := cn_len_le (A := A) (B := rmv a B) fun x => by
      have h3 := cn_rmv x hm
      have h4 := h x
      have h5 : cn x (a :: A) = cn x [a] + cn x A := by simp only [cn]; omega
      omega
    have h6 : (rmv a B).length + 1 = B.length := rmv_len hm
    simp; omega
where
  rmv_len {a : Tm} : ∀ {B : List Tm}, a ∈ B → (rmv a B).length + 1 = B.length
    | [], h => by cases h
    | b :: B, h => by
      by_cases e : b = a
      · subst e; rw [show rmv b (b :: B) = B by rw [rmv, if_pos rfl]]; simp
      · rw [show rmv a (b :: B) = b :: rmv a B by rw [rmv, if_neg e]]
        have := rmv_len ((List.mem_cons.1 h).resolve_left fun e2 => e e2.symm)
        simp; omega
theorem cn_len_lt {A B : List Tm} {a : Tm} (h : ∀ x, cn x A ≤ cn x B) (ha : cn a A < cn a B) : A.length < B.length := by
  have := cn_len_le (A := a :: A) (B := B) fun x => by
    by_cases e : a = x
    · subst e; rw [cn_cons_same]; omega
    · rw [cn_cons_other _ e]; exact h x
  simp at this; omega
open Classical in
/-- What is sent to one thing. -/
noncomputable def pre (f : Tm → Tm) (y : Tm) (l : List Tm) : List Tm := l.filter fun x => decide (f x = y)
theorem pre_len (f : Tm → Tm) (y : Tm) : ∀ (l : List Tm), (pre f y l).length = cn y (l.map f)
  | [] => rfl
  | a :: l => by
    have ih := pre_len f y l
    unfold pre at ih ⊢
    by_cases h : f a = y
    · rw [List.filter_cons_of_pos (by simpa using h), List.map_cons, h, cn_cons_same, List.length_cons, ih]; omega
    · rw [List.filter_cons_of_neg (by simpa using h), List.map_cons, cn_cons_other _ h, ih]
theorem pre_cn (f : Tm → Tm) (y x : Tm) : ∀ (l : List Tm), (f x = y → cn x (pre f y l) = cn x l) ∧ (f x ≠ y → cn x (pre f y l) = 0)
  | [] => ⟨fun _ => rfl, fun _ => rfl⟩
  | a :: l => by
    obtain ⟨h1, h2⟩ := pre_cn f y x l
    unfold pre at h1 h2 ⊢
    by_cases h : f a = y
    · rw [List.filter_cons_of_pos (by simpa using h)]
      refine ⟨fun e => ?_, fun e => ?_⟩
      · rw [cn, cn, h1 e]
      · rw [cn_cons_other _ (fun e2 => e (by rw [← e2]; exact h)), h2 e]
    · rw [List.filter_cons_of_neg (by simpa using h)]
      refine ⟨fun e => ?_, h2⟩
      rw [cn_cons_other _ (fun e2 => h (by rw [e2]; exact e)), h1 e]
theorem pre_more {f : Tm → Tm} {M N : List Tm} {a : Tm} (h : cn a N < cn a M) (h2 : cn (f a) (M.map f) ≤ cn (f a) (N.map f)) : ∃ x, f x = f a ∧ cn x M < cn x N := by
  apply Classical.byContradiction
  intro hno
  have hle : ∀ x, f x = f a → cn x N ≤ cn x M := fun x e => by
    rcases Nat.lt_or_ge (cn x M) (cn x N) with h | h
    · exact absurd ⟨x, e, h⟩ hno
    · exact h
  have := cn_len_lt (A := pre f (f a) N) (B := pre f (f a) M) (a := a) (fun x => by
    by_cases e : f x = f a
    · rw [(pre_cn f (f a) x N).1 e, (pre_cn f (f a) x M).1 e]; exact hle x e
    · rw [(pre_cn f (f a) x N).2 e]; omega) (by rw [(pre_cn f (f a) a N).1 rfl, (pre_cn f (f a) a M).1 rfl]; exact h)
  rw [pre_len, pre_len] at this
  omega
theorem pre_less {f : Tm → Tm} {M N : List Tm} {y : Tm} (h : cn y (M.map f) < cn y (N.map f)) : ∃ x, f x = y ∧ cn x M < cn x N := by
  apply Classical.byContradiction
  intro hno
  have hle : ∀ x, f x = y → cn x N ≤ cn x M := fun x e => by
    rcases Nat.lt_or_ge (cn x M) (cn x N) with h | h
    · exact absurd ⟨x, e, h⟩ hno
    · exact h
  have := cn_len_le (A := pre f y N) (B := pre f y M) fun x => by
    by_cases e : f x = y
    · rw [(pre_cn f y x N).1 e, (pre_cn f y x M).1 e]; exact hle x e
    · rw [(pre_cn f y x N).2 e]; omega
  rw [pre_len, pre_len] at this
  omega
theorem bag_map {W : Tm → Tm → Nat} {f : Tm → Tm} {M N : List Tm} (hI : ∀ a ∈ M ++ N, ¬ 0 < W (f a) (f a)) (hT : ∀ a ∈ M ++ N, ∀ b ∈ M ++ N, ∀ c ∈ M ++ N, 0 < W (f a) (f b) → 0 < W (f b) (f c) → 0 < W (f a) (f c))
    (hf : ∀ a ∈ M, ∀ b ∈ N, 0 < W a b → 0 < W (f a) (f b)) (h : bagG W M N = true) : bagG W (M.map f) (N.map f) = true := by
  rw [bag_iff] at h ⊢
  have mM : ∀ {a : Tm} {n : Nat}, n < cn a M → a ∈ M ++ N := fun h => List.mem_append_left _ (cn_mem h)
  have mN : ∀ {a : Tm} {n : Nat}, n < cn a N → a ∈ M ++ N := fun h => List.mem_append_right _ (cn_mem h)
  refine ⟨fun y hy => ?_, ?_⟩
  · obtain ⟨x0, e0, hx0⟩ := pre_less hy
    obtain ⟨x, hx, ⟨hxy, hS⟩, hmax⟩ := max_of (R := fun a b => 0 < W (f a) (f b)) (S := fun x => (f x = y ∨ 0 < W (f x) y) ∧ cn x M < cn x N) hI hT ⟨x0, mN hx0, .inl e0, hx0⟩
    obtain ⟨a, ha, hax⟩ := h.1 x hS
    have hfx := hf a (cn_mem ha) x (cn_mem hS) hax
    have hay : 0 < W (f a) y := by
      rcases hxy with e | k
      · rw [← e]; exact hfx
      · rw [← e0] at k ⊢; exact hT a (mM ha) x hx x0 (mN hx0) hfx k
    by_cases hc : cn (f a) (N.map f) < cn (f a) (M.map f)
    · exact ⟨f a, hc, hay⟩
    · obtain ⟨z, ez, hz⟩ := pre_more (f := f) (a := a) ha (by omega)
      exact absurd (show 0 < W (f z) (f x) by rw [ez]; exact hfx) (hmax z (mN hz) ⟨.inr (by rw [ez]; exact hay), hz⟩)
  · obtain ⟨a0, ha0⟩ := h.2
    obtain ⟨a, ha, hS, hmax⟩ := max_of (R := fun a b => 0 < W (f a) (f b)) (S := fun x => cn x N < cn x M) hI hT ⟨a0, mM ha0, ha0⟩
    by_cases hc : cn (f a) (N.map f) < cn (f a) (M.map f)
    · exact ⟨f a, hc⟩
    · obtain ⟨z, ez, hz⟩ := pre_more (f := f) (a := a) hS (by omega)
      obtain ⟨b, hb, hbz⟩ := h.1 z hz
      have := hf b (cn_mem hb) z (cn_mem hz) hbz
      rw [ez] at this
      exact absurd this (hmax b (mM hb) hb)

theorem lx_cons {W : Tm → Tm → Nat} {a b : Tm} {ts ss : List Tm} : lexG W (a :: ts) (b :: ss) = true ↔ (a = b ∧ lexG W ts ss = true) ∨ (a ≠ b ∧ 0 < W a b) := by
  rw [lexG]
  by_cases h : a = b
  · rw [if_pos h]
    exact ⟨fun k => .inl ⟨h, k⟩, fun k => k.elim (fun k => k.2) (fun k => absurd h k.1)⟩
  · rw [if_neg h, decide_eq_true_iff]
    exact ⟨fun k => .inr ⟨h, k⟩, fun k => k.elim (fun k => absurd k.1 h) (fun k => k.2)⟩
theorem lx_nil {W : Tm → Tm → Nat} {ss : List Tm} : lexG W [] ss = false := by simp [lexG]
theorem lx_nil2 {W : Tm → Tm → Nat} {ts : List Tm} : lexG W ts [] = false := by cases ts <;> simp [lexG]
theorem lx_irr {W : Tm → Tm → Nat} : ∀ (ts : List Tm), ¬ lexG W ts ts = true
  | [], h => by rw [lx_nil] at h; cases h
  | a :: ts, h => by
    rcases lx_cons.1 h with h | h
    · exact lx_irr ts h.2
    · exact h.1 rfl
theorem lx_trans {W : Tm → Tm → Nat} : ∀ {us ts ss : List Tm}, (∀ a ∈ us, ∀ b ∈ ts, ∀ c ∈ ss, 0 < W a b → 0 < W b c → a ≠ c ∧ 0 < W a c) → lexG W us ts = true → lexG W ts ss = true → lexG W us ss = true
  | [], _, _, _, h, _ => by rw [lx_nil] at h; cases h
  | a :: us, [], _, _, h, _ => by rw [lx_nil2] at h; cases h
  | a :: us, b :: ts, [], _, _, h => by rw [lx_nil2] at h; cases h
  | a :: us, b :: ts, c :: ss, hT, k1, k2 => by
    rcases lx_cons.1 k1 with ⟨e1, k1⟩ | ⟨n1, k1⟩
    · rcases lx_cons.1 k2 with ⟨e2, k2⟩ | ⟨n2, k2⟩
      · exact lx_cons.2 (.inl ⟨e1.trans e2, lx_trans (fun x hx y hy z hz => hT x (List.mem_cons_of_mem _ hx) y (List.mem_cons_of_mem _ hy) z (List.mem_cons_of_mem _ hz)) k1 k2⟩)
      · subst e1; exact lx_cons.2 (.inr ⟨n2, k2⟩)
    · rcases lx_cons.1 k2 with ⟨e2, k2⟩ | ⟨n2, k2⟩
      · subst e2; exact lx_cons.2 (.inr ⟨n1, k1⟩)
      · exact lx_cons.2 (.inr (hT a List.mem_cons_self b List.mem_cons_self c List.mem_cons_self k1 k2))
theorem lx_map {W : Tm → Tm → Nat} {f : Tm → Tm} : ∀ {ts ss : List Tm}, (∀ b ∈ ss, ¬ 0 < W (f b) (f b)) → (∀ a ∈ ts, ∀ b ∈ ss, 0 < W a b → 0 < W (f a) (f b)) → lexG W ts ss = true → lexG W (ts.map f) (ss.map f) = true
  | [], _, _, _, h => by rw [lx_nil] at h; cases h
  | a :: ts, [], _, _, h => by rw [lx_nil2] at h; cases h
  | a :: ts, b :: ss, hI, hf, h => by
    rw [List.map_cons, List.map_cons]
    rcases lx_cons.1 h with ⟨e, h⟩ | ⟨_, h⟩
    · exact lx_cons.2 (.inl ⟨by rw [e], lx_map (fun b hb => hI b (List.mem_cons_of_mem _ hb)) (fun a ha b hb => hf a (List.mem_cons_of_mem _ ha) b (List.mem_cons_of_mem _ hb)) h⟩)
    · have := hf a List.mem_cons_self b List.mem_cons_self h
      exact lx_cons.2 (.inr ⟨fun e => by rw [e] at this; exact hI b List.mem_cons_self this, this⟩)
theorem lx_ctx {W : Tm → Tm → Nat} {r : List Tm} {t s : Tm} (h : 0 < W t s) (hne : t ≠ s) : ∀ (l : List Tm), lexG W (l ++ t :: r) (l ++ s :: r) = true
  | [] => lx_cons.2 (.inr ⟨hne, h⟩)
  | a :: l => lx_cons.2 (.inl ⟨rfl, lx_ctx h hne l⟩)

/-- By words or by bags. -/
noncomputable def exG (lex : Bool) (W : Tm → Tm → Nat) (ts ss : List Tm) : Bool := if lex = true then lexG W ts ss else bagG W ts ss
/-- Greater. -/
def Gr (rk : Int → Int) (lex : Bool) (t s : Tm) : Prop := 0 < lpoW rk lex t s
section
variable {ar : List Int} {rk : Int → Int} {lex : Bool}
theorem argG_iff {ts : List Tm} {s : Tm} : argG (lpoW rk lex) ts s = true ↔ ∃ a ∈ ts, a = s ∨ Gr rk lex a s := by
  unfold argG Gr
  simp only [List.any_eq_true, Bool.or_eq_true, decide_eq_true_eq]
theorem overG_iff {t : Tm} {ss : List Tm} : overG (lpoW rk lex) t ss = true ↔ ∀ b ∈ ss, Gr rk lex t b := by
  unfold overG Gr
  simp only [List.all_eq_true, decide_eq_true_eq]
/-- What the cases say. -/
theorem Gr_cases {t s : Tm} : Gr rk lex t s ↔ 0 ≤ t.hd ∧ ((∃ a ∈ t.as, a = s ∨ Gr rk lex a s) ∨ (0 ≤ s.hd ∧ ((t.hd = s.hd ∧ (lex = true → ∀ b ∈ s.as, Gr rk lex t b) ∧ exG lex (lpoW rk lex) t.as s.as = true) ∨ (t.hd ≠ s.hd ∧ rk s.hd < rk t.hd ∧ ∀ b ∈ s.as, Gr rk lex t b)))) := by
  rw [← argG_iff, ← overG_iff]
  unfold Gr
  rw [lpoW_eq]
  unfold lpoB
  by_cases h0 : t.hd < 0
  · rw [if_pos h0]
    exact ⟨fun h => by omega, fun h => by omega⟩
  · rw [if_neg h0]
    by_cases h1 : argG (lpoW rk lex) t.as s = true
    · rw [if_pos h1]; exact ⟨fun _ => ⟨by omega, .inl h1⟩, fun _ => by omega⟩
    · rw [if_neg h1]
      by_cases h2 : s.hd < 0
      · rw [if_pos h2]
        constructor
        · intro h; omega
        · rintro ⟨_, h | ⟨h, _⟩⟩
          · exact absurd h h1
          · omega
      · rw [if_neg h2]
        by_cases h3 : t.hd = s.hd
        · rw [if_pos h3]
          have hc : (if lex = true then overG (lpoW rk lex) t s.as && lexG (lpoW rk lex) t.as s.as else bagG (lpoW rk lex) t.as s.as) = true ↔ (lex = true → overG (lpoW rk lex) t s.as = true) ∧ exG lex (lpoW rk lex) t.as s.as = true := by
            unfold exG
            cases lex
            · simp
            · simp
          by_cases h4 : (if lex = true then overG (lpoW rk lex) t s.as && lexG (lpoW rk lex) t.as s.as else bagG (lpoW rk lex) t.as s.as) = true
          · rw [if_pos h4]
            exact ⟨fun _ => ⟨by omega, .inr ⟨by omega, .inl ⟨h3, hc.1 h4⟩⟩⟩, fun _ => by omega⟩
          · rw [if_neg h4]
            constructor
            · intro h; omega
            · rintro ⟨_, h | ⟨_, ⟨_, h⟩ | ⟨h, _⟩⟩⟩
              · exact absurd h h1
              · exact absurd (hc.2 h) h4
              · exact absurd h3 h
        · rw [if_neg h3]
          by_cases h4 : rk s.hd < rk t.hd ∧ overG (lpoW rk lex) t s.as = true
          · rw [if_pos h4]
            exact ⟨fun _ => ⟨by omega, .inr ⟨by omega, .inr ⟨h3, h4⟩⟩⟩, fun _ => by omega⟩
          · rw [if_neg h4]
            constructor
            · intro h; omega
            · rintro ⟨_, h | ⟨_, ⟨h, _⟩ | ⟨_, h⟩⟩⟩
              · exact absurd h h1
              · exact absurd h h3
              · exact absurd h h4
theorem Gr_sub {t a : Tm} (h0 : 0 ≤ t.hd) (ha : a ∈ t.as) : Gr rk lex t a := Gr_cases.2 ⟨h0, .inl ⟨a, ha, .inl rfl⟩⟩
/-- .. and a shape for both orders. -/
theorem Gr_iff {t s : Tm} : Gr rk lex t s ↔ 0 ≤ t.hd ∧ ((∃ a ∈ t.as, a = s ∨ Gr rk lex a s) ∨ (0 ≤ s.hd ∧ (∀ b ∈ s.as, Gr rk lex t b) ∧ ((t.hd = s.hd ∧ exG lex (lpoW rk lex) t.as s.as = true) ∨ (t.hd ≠ s.hd ∧ rk s.hd < rk t.hd)))) := by
  rw [Gr_cases]
  constructor
  · rintro ⟨h0, h | ⟨h1, ⟨h2, h3, h4⟩ | ⟨h2, h3, h4⟩⟩⟩
    · exact ⟨h0, .inl h⟩
    · refine ⟨h0, .inr ⟨h1, ?_, .inl ⟨h2, h4⟩⟩⟩
      cases lex with
      | true => exact h3 rfl
      | false =>
        intro b hb
        unfold exG at h4
        rw [if_neg (by simp), bag_iff] at h4
        by_cases h5 : b ∈ t.as
        · exact Gr_sub h0 h5
        · have h6 : cn b t.as < cn b s.as := by
            have := cn_pos.2 hb
            have : ¬ 0 < cn b t.as := fun h => h5 (cn_pos.1 h)
            omega
          obtain ⟨a, ha, hab⟩ := h4.1 b h6
          exact Gr_cases.2 ⟨h0, .inl ⟨a, cn_mem ha, .inr hab⟩⟩
    · exact ⟨h0, .inr ⟨h1, h4, .inr ⟨h2, h3⟩⟩⟩
  · rintro ⟨h0, h | ⟨h1, h4, ⟨h2, h3⟩ | ⟨h2, h3⟩⟩⟩
    · exact ⟨h0, .inl h⟩
    · exact ⟨h0, .inr ⟨h1, .inl ⟨h2, fun _ => h4, h3⟩⟩⟩
    · exact ⟨h0, .inr ⟨h1, .inr ⟨h2, h3, h4⟩⟩⟩
theorem ex_trans {W : Tm → Tm → Nat} {M N P : List Tm} (hI : ∀ a ∈ M ++ N ++ P, ¬ 0 < W a a) (hT : ∀ a ∈ M ++ N ++ P, ∀ b ∈ M ++ N ++ P, ∀ c ∈ M ++ N ++ P, 0 < W a b → 0 < W b c → 0 < W a c)
    (h1 : exG lex W M N = true) (h2 : exG lex W N P = true) : exG lex W M P = true := by
  unfold exG at *
  cases lex with
  | true =>
    simp only [if_true] at *
    refine lx_trans (fun a ha b hb c hc k1 k2 => ?_) h1 h2
    have ma : a ∈ M ++ N ++ P := List.mem_append_left _ (List.mem_append_left _ ha)
    have := hT a ma b (List.mem_append_left _ (List.mem_append_right _ hb)) c (List.mem_append_right _ hc) k1 k2
    exact ⟨fun e => by subst e; exact hI a ma this, this⟩
  | false =>
    rw [if_neg (by simp)] at h1 h2 ⊢
    exact bag_trans hI hT h1 h2
theorem ex_irr {W : Tm → Tm → Nat} {M : List Tm} : ¬ exG lex W M M = true := by
  unfold exG
  cases lex with
  | true => exact lx_irr M
  | false => exact bag_irr
theorem Gr_both : ∀ (n : Nat), (∀ u t s : Tm, u.sz ≤ n → t.sz ≤ n → s.sz ≤ n → Gr rk lex u t → Gr rk lex t s → Gr rk lex u s) ∧ (∀ t : Tm, t.sz ≤ n → ¬ Gr rk lex t t)
  | 0 => ⟨fun u t s h => by have := flat_pos u; unfold Tm.sz at h; omega, fun t h => by have := flat_pos t; unfold Tm.sz at h; omega⟩
  | n + 1 => by
    obtain ⟨hT, hI⟩ := Gr_both n
    have hTr : ∀ (m : Nat) (u t s : Tm), u.sz + t.sz + s.sz ≤ m → u.sz ≤ n + 1 → t.sz ≤ n + 1 → s.sz ≤ n + 1 → Gr rk lex u t → Gr rk lex t s → Gr rk lex u s := by
      intro m
      induction m with
      | zero => intro u t s h; have := flat_pos u; unfold Tm.sz at h; omega
      | succ m ih =>
        intro u t s h hu ht hs k1 k2
        obtain ⟨u0, k1'⟩ := Gr_iff.1 k1
        obtain ⟨t0, k2'⟩ := Gr_iff.1 k2
        rcases k1' with ⟨a, ha, h1⟩ | ⟨_, h1, h2⟩
        · have za := sz_arg ha
          refine Gr_iff.2 ⟨u0, .inl ⟨a, ha, .inr ?_⟩⟩
          rcases h1 with rfl | h1
          · exact k2
          · exact ih a t s (by omega) (by omega) ht hs h1 k2
        · rcases k2' with ⟨b, hb, h3⟩ | ⟨s0, h3, h4⟩
          · have zb := sz_arg hb
            rcases h3 with rfl | h3
            · exact h1 b hb
            · exact ih u b s (by omega) hu (by omega) hs (h1 b hb) h3
          · have h5 : ∀ c ∈ s.as, Gr rk lex u c := fun c hc => ih u t c (by have := sz_arg hc; omega) hu ht (by have := sz_arg hc; omega) k1 (h3 c hc)
            refine Gr_iff.2 ⟨u0, .inr ⟨s0, h5, ?_⟩⟩
            rcases h2 with ⟨e1, l1⟩ | ⟨e1, l1⟩
            · rcases h4 with ⟨e2, l2⟩ | ⟨e2, l2⟩
              · have hz : ∀ a ∈ u.as ++ t.as ++ s.as, a.sz ≤ n := fun a ha => by
                  rcases List.mem_append.1 ha with ha | ha
                  · rcases List.mem_append.1 ha with ha | ha
                    · have := sz_arg ha; omega
                    · have := sz_arg ha; omega
                  · have := sz_arg ha; omega
                exact .inl ⟨e1.trans e2, ex_trans (fun a ha => hI a (hz a ha)) (fun a ha b hb c hc => hT a b c (hz a ha) (hz b hb) (hz c hc)) l1 l2⟩
              · exact .inr ⟨by rw [e1]; exact e2, by rw [e1]; exact l2⟩
            · rcases h4 with ⟨e2, l2⟩ | ⟨e2, l2⟩
              · exact .inr ⟨by rw [← e2]; exact e1, by rw [← e2]; exact l1⟩
              · exact .inr ⟨fun e => by rw [e] at l1; omega, by omega⟩
    refine ⟨fun u t s hu ht hs k1 k2 => hTr _ u t s (Nat.le_refl _) hu ht hs k1 k2, fun t ht k => ?_⟩
    obtain ⟨t0, k'⟩ := Gr_iff.1 k
    rcases k' with ⟨a, ha, h1⟩ | ⟨_, _, ⟨_, h2⟩ | ⟨h2, _⟩⟩
    · have hz := sz_arg ha
      rcases h1 with rfl | h1
      · omega
      · have h0 : 0 ≤ a.hd := (Gr_iff.1 h1).1
        exact hI a (by omega) (hTr _ a t a (Nat.le_refl _) (by omega) ht (by omega) h1 (Gr_sub t0 ha))
    · exact ex_irr h2
    · exact h2 rfl
theorem Gr_trans {u t s : Tm} (h : Gr rk lex u t) (k : Gr rk lex t s) : Gr rk lex u s := (Gr_both (u.sz + t.sz + s.sz)).1 u t s (by omega) (by omega) (by omega) h k
theorem Gr_irr (t : Tm) : ¬ Gr rk lex t t := (Gr_both t.sz).2 t (Nat.le_refl _)
theorem ex_map {f : Tm → Tm} {M N : List Tm} (hf : ∀ a ∈ M, ∀ b ∈ N, Gr rk lex a b → Gr rk lex (f a) (f b)) (h : exG lex (lpoW rk lex) M N = true) : exG lex (lpoW rk lex) (M.map f) (N.map f) = true := by
  unfold exG at *
  cases lex with
  | true =>
    simp only [if_true] at *
    exact lx_map (fun b _ => Gr_irr (f b)) hf h
  | false =>
    rw [if_neg (by simp)] at h ⊢
    exact bag_map (fun a _ => Gr_irr (f a)) (fun a _ b _ c _ => Gr_trans) hf h
theorem ex_ctx {l r : List Tm} {t s : Tm} (h : Gr rk lex t s) : exG lex (lpoW rk lex) (l ++ t :: r) (l ++ s :: r) = true := by
  have hne : t ≠ s := fun e => by rw [e] at h; exact Gr_irr s h
  unfold exG
  cases lex with
  | true => simp only [if_true]; exact lx_ctx h hne l
  | false => rw [if_neg (by simp)]; exact bag_ctx h hne
theorem sub_hd {g : Int → Tm} {t : Tm} (h : 0 ≤ t.hd) : (t.sub g).hd = t.hd ∧ (t.sub g).as = t.as.map (Tm.sub g) := by
  cases t with
  | node x as =>
    have h' : ¬ x < 0 := by have : 0 ≤ x := h; omega
    rw [sub_sym h', subL_map]; exact ⟨rfl, rfl⟩
/-- It stays where both are filled. -/
theorem Gr_fill {g : Int → Tm} : ∀ (n : Nat) (t s : Tm), t.sz + s.sz ≤ n → Gr rk lex t s → Gr rk lex (t.sub g) (s.sub g)
  | 0, t, s, h, _ => by have := flat_pos t; unfold Tm.sz at h; omega
  | n + 1, t, s, hn, h => by
    obtain ⟨t0, h'⟩ := Gr_iff.1 h
    obtain ⟨e1, e2⟩ := sub_hd (g := g) t0
    rw [Gr_iff, e1, e2]
    refine ⟨t0, ?_⟩
    rcases h' with ⟨a, ha, h1⟩ | ⟨s0, h1, h2⟩
    · refine .inl ⟨a.sub g, List.mem_map_of_mem ha, ?_⟩
      rcases h1 with rfl | h1
      · exact .inl rfl
      · exact .inr (Gr_fill n a s (by have := sz_arg ha; omega) h1)
    · obtain ⟨e3, e4⟩ := sub_hd (g := g) s0
      rw [e3, e4]
      refine .inr ⟨s0, fun b hb => ?_, ?_⟩
      · obtain ⟨c, hc, rfl⟩ := List.mem_map.1 hb
        exact Gr_fill n t c (by have := sz_arg hc; omega) (h1 c hc)
      · rcases h2 with ⟨e, h2⟩ | h2
        · exact .inl ⟨e, ex_map (fun a ha b hb hab => Gr_fill n a b (by have := sz_arg ha; have := sz_arg hb; omega) hab) h2⟩
        · exact .inr h2
theorem Gr_ctx {x : Int} {l r : List Tm} {t s : Tm} (h0 : 0 ≤ x) (h : Gr rk lex t s) : Gr rk lex (.node x (l ++ t :: r)) (.node x (l ++ s :: r)) := by
  rw [Gr_iff]
  refine ⟨h0, .inr ⟨h0, fun b hb => ?_, .inl ⟨rfl, ex_ctx h⟩⟩⟩
  have hb' : b ∈ l ++ s :: r := hb
  by_cases e : b = s
  · subst e
    exact Gr_iff.2 ⟨h0, .inl ⟨t, by show t ∈ l ++ t :: r; simp, .inr h⟩⟩
  · refine Gr_sub h0 ?_
    show b ∈ l ++ t :: r
    simp at hb' ⊢
    rcases hb' with h | h | h
    · exact .inl h
    · exact absurd h e
    · exact .inr (.inr h)
theorem Gr_at {R : Tm → Tm → Prop} (hR : ∀ u v, R u v → Gr rk lex u v) {p : Nat} {u v : Tm} (h : At R p u v) : u.Ok ar → Gr rk lex u v := by
  induction h with
  | here h => exact fun _ => hR _ _ h
  | @arg x as bs a b p h ih =>
    intro hu
    obtain ⟨h1, h2⟩ := Ok_node.1 hu
    have h3 := (OkL_cons.1 (OkL_append.1 h2).2).1
    have hx : 0 ≤ x := by
      rcases Int.lt_or_le x 0 with hx | hx
      · rw [arI_var hx] at h1
        have := Option.some.inj h1
        simp at this
      · exact hx
    exact Gr_ctx hx (ih h3)
end

end Go.Proofs.Ytleahogikppepaa
