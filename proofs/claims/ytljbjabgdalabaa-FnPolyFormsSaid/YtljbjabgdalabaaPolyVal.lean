/- FnPolyValues, its law on numbers. -/
import Derived.Test.YtljbjabgdalabaaFormY
import Derived.Test.YtljbjabgdalabaaDicP
import Derived.Test.YtljbjabgdalabaaFormX
namespace Go.Proofs.Ytljbjabgdalabaa
open Go.RowKit
set_option linter.unusedSimpArgs false
set_option linter.unusedVariables false

theorem nth_addL (a b : List Int) (m : Int) (k : Nat) : nth (addL a b m) k = nth a k + m * nth b k := addL_get a b m k
theorem vsum_addP (a b : Pl) (m : Int) (vs : List Int) : ∀ n : Nat, vsum (addP a b m) vs n = vsum a vs n + m * vsum b vs n
  | 0 => rfl
  | n + 1 => by
    show vsum (addP a b m) vs n + nth (addL a.cf b.cf m) n * nth vs n = (vsum a vs n + nth a.cf n * nth vs n) + m * (vsum b vs n + nth b.cf n * nth vs n)
    rw [vsum_addP a b m vs n, nth_addL, Int.add_mul, Int.mul_add, Int.mul_assoc]
    omega
theorem vsum_const (c : Int) (vs : List Int) : ∀ n : Nat, vsum ⟨c, []⟩ vs n = c
  | 0 => rfl
  | n + 1 => by
    show vsum ⟨c, []⟩ vs n + nth [] n * nth vs n = c
    rw [vsum_const c vs n, show nth [] n = 0 from by simp [nth]]
    omega
theorem addP_upto2 {A B : Int} {a b : Pl} {m : Int} (ha : Upto A a) (hA : 0 ≤ A) (hb : Upto B b) (hB : 0 ≤ B) (hm : 0 ≤ m ∧ m ≤ 2) : Upto (A + 2 * B) (addP a b m) := by
  have hmul : ∀ x : Int, 0 ≤ x → x ≤ B → 0 ≤ m * x ∧ m * x ≤ 2 * B := fun x h1 h2 =>
    ⟨Int.mul_nonneg hm.1 h1, Int.le_trans (Int.mul_le_mul_of_nonneg_right hm.2 h1) (by omega)⟩
  refine Upto.of_getD ?_ fun j hj => ?_
  · have h1 := ha.1
    have h2 := hmul b.c hb.1.1 hb.1.2
    show 0 ≤ a.c + m * b.c ∧ a.c + m * b.c ≤ _
    omega
  · show 0 ≤ (addL a.cf b.cf m).getD j 0 ∧ (addL a.cf b.cf m).getD j 0 ≤ _
    rw [addL_get]
    have h1 := ha.getD hA j
    have h2 := hb.getD hB j
    have h3 := hmul _ h2.1 h2.2
    omega
def Sm (ps : List Pl) : Prop := ps.length = 3 ∧ ∀ p ∈ ps, (0 ≤ p.c ∧ p.c ≤ 2) ∧ ∀ x ∈ p.cf, 0 ≤ x ∧ x ≤ 2
theorem Sm.get {ps : List Pl} (h : Sm ps) (k : Nat) : (0 ≤ (ps.getD k ⟨0, []⟩).c ∧ (ps.getD k ⟨0, []⟩).c ≤ 2) ∧ ∀ j, 0 ≤ (ps.getD k ⟨0, []⟩).cf.getD j 0 ∧ (ps.getD k ⟨0, []⟩).cf.getD j 0 ≤ 2 := by
  rw [List.getD_eq_getElem?_getD]
  rcases hk : ps[k]? with _ | p
  · simp
  · obtain ⟨h1, h2⟩ := h.2 p (List.mem_of_getElem? hk)
    refine ⟨h1, fun j => ?_⟩
    rw [List.getD_eq_getElem?_getD]
    show 0 ≤ (p.cf[j]?).getD 0 ∧ (p.cf[j]?).getD 0 ≤ 2
    rcases hj : p.cf[j]? with _ | x
    · simp
    · exact h2 x (List.mem_of_getElem? hj)
theorem not_big {f : Pl} {M : Int} (h : Upto M f) (hM : M ≤ 1000000000000) : ¬ Big f := by
  rintro (h1 | ⟨x, hx, h1⟩)
  · have := h.1; omega
  · have := h.2 x hx; omega
theorem Upto.mono {M N : Int} {f : Pl} (h : Upto M f) (hMN : M ≤ N) : Upto N f := ⟨⟨h.1.1, by have := h.1.2; omega⟩, fun x hx => ⟨(h.2 x hx).1, by have := (h.2 x hx).2; omega⟩⟩
theorem varPl_upto {x : Int} : Upto 1 (varPl x) := by
  refine ⟨⟨Int.le_refl _, by show (0 : Int) ≤ 1; omega⟩, fun y hy => ?_⟩
  simp only [varPl, List.mem_append, List.mem_replicate, List.mem_singleton] at hy
  omega
def p4 (n : Nat) : Int := (4 : Int) ^ n
theorem p4_succ (n : Nat) : p4 (n + 1) = 4 * p4 n := by unfold p4; rw [Int.pow_succ]; omega
theorem p4_add (a b : Nat) : p4 (a + b) = p4 a * p4 b := by unfold p4; rw [Int.pow_add]
theorem p4_pos : ∀ n : Nat, 1 ≤ p4 n
  | 0 => by decide
  | n + 1 => by have := p4_pos n; rw [p4_succ]; omega
theorem p4_mono : ∀ {a b : Nat}, a ≤ b → p4 a ≤ p4 b
  | a, 0, h => by obtain rfl : a = 0 := by omega
                  exact Int.le_refl _
  | a, b + 1, h => by
    rcases Nat.lt_or_ge a (b + 1) with h1 | h1
    · have := p4_mono (show a ≤ b by omega)
      have := p4_pos b
      rw [p4_succ]; omega
    · obtain rfl : a = b + 1 := by omega
      exact Int.le_refl _
theorem p4_two {a b : Nat} (ha : 1 ≤ a) (hb : 1 ≤ b) : 2 + 2 * p4 a + 2 * p4 b ≤ p4 (1 + a + b) := by
  rw [show 1 + a + b = (a + b) + 1 by omega, p4_succ, p4_add]
  have h1 : p4 1 ≤ p4 a := p4_mono ha
  have h2 : p4 1 ≤ p4 b := p4_mono hb
  have h3 : p4 1 = 4 := by decide
  rw [h3] at h1 h2
  have h4 : 4 * p4 b ≤ p4 a * p4 b := Int.mul_le_mul_of_nonneg_right h1 (by omega)
  have h5 : p4 a * 4 ≤ p4 a * p4 b := Int.mul_le_mul_of_nonneg_left h2 (by omega)
  omega
/-- Small forms: of a head and its arguments. -/
theorem app_small {ps : List Pl} {k : Nat} {fs : List Pl} {L : Nat → Nat} (h : Sm ps) (h2 : fs.length ≤ 2) (hf : ∀ (j : Nat) (f : Pl), fs[j]? = some f → 1 ≤ L j ∧ Upto (p4 (L j)) f) (hs : (if fs.length = 0 then 0 else if fs.length = 1 then L 0 else L 0 + L 1) ≤ 14) :
    appP (ps.getD k ⟨0, []⟩) fs = some (sumTo (ps.getD k ⟨0, []⟩) fs fs.length) ∧ Upto (p4 (1 + if fs.length = 0 then 0 else if fs.length = 1 then L 0 else L 0 + L 1)) (sumTo (ps.getD k ⟨0, []⟩) fs fs.length) := by
  have hp := h.get k
  generalize ps.getD k ⟨0, []⟩ = p at hp ⊢
  have h0 : Upto 2 ⟨p.c, []⟩ := ⟨hp.1, fun x hx => by cases hx⟩
  have fin : ∀ n : Nat, n ≤ 15 → p4 n ≤ 1000000000000 := fun n hn => Int.le_trans (p4_mono hn) (by decide)
  have key : Upto (p4 (1 + if fs.length = 0 then 0 else if fs.length = 1 then L 0 else L 0 + L 1)) (sumTo p fs fs.length) := by
    match fs, h2, hf with
    | [], _, _ => exact h0.mono (show (2 : Int) ≤ p4 1 by decide)
    | [f], _, hf =>
      obtain ⟨l1, u1⟩ := hf 0 f rfl
      have := addP_upto2 h0 (by omega) u1 (by have := p4_pos (L 0); omega) (hp.2 0)
      refine Upto.mono this ?_
      show 2 + 2 * p4 (L 0) ≤ p4 (1 + L 0)
      have := p4_mono l1
      have h3 : p4 1 = 4 := by decide
      rw [show 1 + L 0 = L 0 + 1 by omega, p4_succ]; omega
    | [f, g], _, hf =>
      obtain ⟨l1, u1⟩ := hf 0 f rfl
      obtain ⟨l2, u2⟩ := hf 1 g rfl
      have q1 := p4_pos (L 0)
      have q2 := p4_pos (L 1)
      have := addP_upto2 (addP_upto2 h0 (by omega) u1 (by omega) (hp.2 0)) (by omega) u2 (by omega) (hp.2 1)
      exact Upto.mono this (by have := p4_two l1 l2; show 2 + 2 * p4 (L 0) + 2 * p4 (L 1) ≤ p4 (1 + (L 0 + L 1)); rw [show 1 + (L 0 + L 1) = 1 + L 0 + L 1 by omega]; exact this)
    | f :: g :: h :: t, h2, _ => simp at h2
  refine ⟨?_, key⟩
  unfold appP
  rw [if_neg (not_big key (fin _ (by omega)))]
mutual
theorem form_small {ps : List Pl} (h : Sm ps) : ∀ (u : Tm), u.Ok [2, 1, 0] → u.flat.length ≤ 15 → ∃ f, form ps u = some f ∧ Upto (p4 u.flat.length) f
  | .node x us, ho, hl => by
    obtain ⟨h1, h2⟩ := Ok_node.1 ho
    rw [flat_node, List.length_cons] at hl ⊢
    rw [form_node]
    by_cases hx : x < 0
    · rw [if_pos hx]
      exact ⟨_, rfl, varPl_upto.mono (p4_pos _)⟩
    · rw [if_neg hx]
      obtain ⟨fs, e1, e2, e3⟩ := formL_small h us h2 (by omega)
      have hlen : us.length ≤ 2 := by
        have hx3 : x < 3 := arI_lt h1
        have hx' : x = 0 ∨ x = 1 ∨ x = 2 := by omega
        rcases hx' with rfl | rfl | rfl <;> simp [arI] at h1 <;> omega
      have hsum : (if fs.length = 0 then 0 else if fs.length = 1 then (us.getD 0 (.node 0 [])).flat.length else (us.getD 0 (.node 0 [])).flat.length + (us.getD 1 (.node 0 [])).flat.length) = (flatL us).length := by
        rw [e2]
        match us, hlen with
        | [], _ => simp [flatL_nil]
        | [a], _ => simp [flatL_cons, flatL_nil]
        | [a, b], _ => simp [flatL_cons, flatL_nil]
        | a :: b :: c :: t, hlen => simp at hlen
      have := app_small (k := x.toNat) (L := fun j => (us.getD j (.node 0 [])).flat.length) h (by omega) (fun j f hj => ⟨flat_pos _, e3 j f hj⟩) (by rw [hsum]; omega)
      rw [hsum] at this
      refine ⟨_, by rw [e1]; exact this.1, by rw [show (flatL us).length + 1 = 1 + (flatL us).length by omega]; exact this.2⟩
theorem formL_small {ps : List Pl} (h : Sm ps) : ∀ (us : List Tm), OkL [2, 1, 0] us → (flatL us).length ≤ 15 → ∃ fs, formL ps us = some fs ∧ fs.length = us.length ∧ ∀ (j : Nat) (f : Pl), fs[j]? = some f → Upto (p4 (us.getD j (.node 0 [])).flat.length) f
  | [], _, _ => ⟨[], formL_nil ps, rfl, fun j f hj => by simp at hj⟩
  | a :: us, ho, hl => by
    obtain ⟨h1, h2⟩ := OkL_cons.1 ho
    rw [flatL_cons, List.length_append] at hl
    obtain ⟨f, e1, e2⟩ := form_small h a h1 (by omega)
    obtain ⟨fs, e3, e4, e5⟩ := formL_small h us h2 (by omega)
    refine ⟨f :: fs, by rw [formL_cons, e1, e3]; rfl, by simp [e4], fun j g hj => ?_⟩
    cases j with
    | zero => cases hj; exact e2
    | succ j => exact e5 j g (by simpa using hj)
end
theorem Upto.nth {M : Int} {f : Pl} (h : Upto M f) (hM : 0 ≤ M) (k : Nat) : 0 ≤ nth f.cf k ∧ nth f.cf k ≤ M := h.getD hM k
theorem vsum2_bd {f : Pl} {v0 v1 M : Int} (h : Upto M f) (hM : 0 ≤ M) (h0 : 0 ≤ v0 ∧ v0 ≤ 49) (h1 : 0 ≤ v1 ∧ v1 ≤ 49) : 0 ≤ vsum f [v0, v1] 2 ∧ vsum f [v0, v1] 2 ≤ 99 * M := by
  have e : vsum f [v0, v1] 2 = f.c + nth f.cf 0 * v0 + nth f.cf 1 * v1 := rfl
  have k0 := h.nth hM 0
  have k1 := h.nth hM 1
  have m0 : 0 ≤ nth f.cf 0 * v0 ∧ nth f.cf 0 * v0 ≤ M * 49 := ⟨Int.mul_nonneg k0.1 h0.1, Int.le_trans (Int.mul_le_mul_of_nonneg_right k0.2 h0.1) (Int.mul_le_mul_of_nonneg_left h0.2 hM)⟩
  have m1 : 0 ≤ nth f.cf 1 * v1 ∧ nth f.cf 1 * v1 ≤ M * 49 := ⟨Int.mul_nonneg k1.1 h1.1, Int.le_trans (Int.mul_le_mul_of_nonneg_right k1.2 h1.1) (Int.mul_le_mul_of_nonneg_left h1.2 hM)⟩
  have := h.1
  rw [e]; omega
theorem vsum2_mono {a b : Pl} {v0 v1 M : Int} (ha : Upto M a) (hb : Upto M b) (hM : 0 ≤ M) (h0 : 0 ≤ v0) (h1 : 0 ≤ v1) (h : most a b = true) : vsum a [v0, v1] 2 - a.c ≤ vsum b [v0, v1] 2 - b.c := by
  have hm : Most a b := by unfold most at h; simpa using h
  have hn : ∀ j, nth a.cf j ≤ nth b.cf j := fun j => by
    rcases hj : a.cf[j]? with _ | x
    · have : nth a.cf j = 0 := by unfold nth; rw [List.getD_eq_getElem?_getD, hj]; rfl
      rw [this]; exact (hb.nth hM j).1
    · have : nth a.cf j = x := by unfold nth; rw [List.getD_eq_getElem?_getD, hj]; rfl
      rw [this]; exact hm j x hj
  have e1 : vsum a [v0, v1] 2 = a.c + nth a.cf 0 * v0 + nth a.cf 1 * v1 := rfl
  have e2 : vsum b [v0, v1] 2 = b.c + nth b.cf 0 * v0 + nth b.cf 1 * v1 := rfl
  have q0 := Int.mul_le_mul_of_nonneg_right (hn 0) h0
  have q1 := Int.mul_le_mul_of_nonneg_right (hn 1) h1
  rw [e1, e2]; omega
/-- The signature of the laws by dice. -/
abbrev arD : List Int := [2, 1, 0]
theorem sigD : SigP arD := sigOk_iff.1 (by first | rfl | decide | simp [sigOk, SigP])
theorem termD {u : Tm} (h : u.Ok arD) (hl : u.flat.length ≤ 60) (hg : ∀ x ∈ u.flat, -24 ≤ x) : TermP arD u.flat := by
  refine ⟨sigD, ⟨flat_pos u, hl⟩, hg, ?_⟩
  have := scan_flat u h [] 0
  rw [List.append_nil] at this
  rw [show (1 : Nat) = 0 + 1 from rfl, this, scan_zero]
  simp
theorem ps3_sm {ps : List Pl} {l : Int} (h : Ps3 l ps) (hl : 0 ≤ l ∧ l ≤ 1) : Sm ps := by
  obtain ⟨c0, a0, a1, c1, b0, c2, rfl, h0, h1, h2, h3, h4, h5⟩ := h
  refine ⟨rfl, fun p hp => ?_⟩
  simp only [List.mem_cons, List.not_mem_nil, or_false] at hp
  rcases hp with rfl | rfl | rfl
  · exact ⟨h0, fun x hx => by simp only [List.mem_cons, List.not_mem_nil, or_false] at hx; omega⟩
  · exact ⟨h1, fun x hx => by simp only [List.mem_cons, List.not_mem_nil, or_false] at hx; omega⟩
  · exact ⟨h2, fun x hx => by cases hx⟩
theorem ps3_ok {ps : List Pl} {l : Int} (h : Ps3 l ps) (hl : 0 ≤ l ∧ l ≤ 1) : PolysP arD ps := by
  obtain ⟨c0, a0, a1, c1, b0, c2, rfl, h0, h1, h2, h3, h4, h5⟩ := h
  refine ⟨sigD, rfl, fun j p n hp hn => ?_⟩
  match j, hp, hn with
  | 0, hp, hn => cases hp; cases hn; exact ⟨rfl, ⟨by show 0 ≤ c0; omega, by show c0 ≤ 9; omega⟩, fun x hx => by simp only [List.mem_cons, List.not_mem_nil, or_false] at hx; omega⟩
  | 1, hp, hn => cases hp; cases hn; exact ⟨rfl, ⟨by show 0 ≤ c1; omega, by show c1 ≤ 9; omega⟩, fun x hx => by simp only [List.mem_cons, List.not_mem_nil, or_false] at hx; omega⟩
  | 2, hp, hn => cases hp; cases hn; exact ⟨rfl, ⟨by show 0 ≤ c2; omega, by show c2 ≤ 9; omega⟩, fun x hx => by cases hx⟩
  | j + 3, hp, _ => simp at hp
theorem p4_15 : p4 15 = 1073741824 := by decide
theorem val_at {ps : List Pl} {u : Tm} {v0 v1 : Int} (hS : Sm ps) (hP : PolysP arD ps) (ht : TermP arD u.flat) (ho : u.Ok arD) (hl : u.flat.length ≤ 15) (h0 : 0 ≤ v0 ∧ v0 ≤ 49) (h1 : 0 ≤ v1 ∧ v1 ≤ 49) :
    ∃ f, form ps u = some f ∧ Upto (p4 15) f ∧ formO arD ps u.flat = some f ∧ valOk arD ps u.flat [v0, v1] = true ∧ valAt arD ps u.flat [v0, v1] = vsum f [v0, v1] 2 := by
  obtain ⟨f, e1, e2⟩ := form_small hS u ho hl
  have e3 := e2.mono (p4_mono hl)
  have e4 : formO arD ps u.flat = some f := by
    rw [formO_t (by rw [polysOk_iff.2 hP, termOk_iff.2 ht]; rfl), tmOf_flat ho]; exact e1
  have hb := vsum2_bd e3 (by rw [p4_15]; omega) h0 h1
  rw [p4_15] at hb
  have hv : ValsOk [v0, v1] := ⟨by simp, fun x hx => by simp only [List.mem_cons, List.not_mem_nil, or_false] at hx; omega⟩
  have := val_ok (n := 2) e4 hv rfl (by omega)
  exact ⟨f, e1, e3, e4, this.1, this.2⟩
theorem both_val {c0 a0 a1 c1 b0 c2 : Int} {s t : Tm} {f g h : Pl} {vs : List Int} (hf : form [⟨c0, [a0, a1]⟩, ⟨c1, [b0]⟩, ⟨c2, []⟩] s = some f) (hg : form [⟨c0, [a0, a1]⟩, ⟨c1, [b0]⟩, ⟨c2, []⟩] t = some g) (hh : form [⟨c0, [a0, a1]⟩, ⟨c1, [b0]⟩, ⟨c2, []⟩] (.node 0 [s, t]) = some h) (n : Nat) :
    vsum h vs n = c0 + a0 * vsum f vs n + a1 * vsum g vs n := by
  rw [form_node, if_neg (by omega), formL_cons, formL_cons, formL_nil, hf, hg] at hh
  simp only [Option.bind_some, Option.map_some] at hh
  unfold appP at hh
  split at hh
  · cases hh
  · cases hh
    show vsum (addP (addP ⟨c0, []⟩ f a0) g a1) vs n = _
    rw [vsum_addP, vsum_addP, vsum_const]
theorem bothD {s t : Tm} (hs : s.Ok arD) (ht : t.Ok arD) : (Tm.node 0 [s, t]).Ok arD ∧ (Tm.node 0 [s, t]).flat = 0 :: (s.flat ++ t.flat) := by
  refine ⟨Ok_node.2 ⟨rfl, OkL_cons.2 ⟨hs, OkL_cons.2 ⟨ht, by simp [OkL]⟩⟩⟩, ?_⟩
  rw [flat_node, flatL_cons, flatL_cons, flatL_nil, List.append_nil]
/-- What the law says of two terms. -/
theorem less_val {f g : Pl} {v0 v1 M : Int} (hf : Upto M f) (hg : Upto M g) (hM : 0 ≤ M) (h0 : 0 ≤ v0) (h1 : 0 ≤ v1) :
    (cmpMost (some f) (some g) = true → vsum f [v0, v1] 2 ≤ vsum g [v0, v1] 2) ∧ (cmpLess (some f) (some g) = true → vsum f [v0, v1] 2 < vsum g [v0, v1] 2 ∧ cmpMost (some f) (some g) = true) := by
  unfold cmpMost cmpLess
  simp only [Bool.and_eq_true, decide_eq_true_eq]
  refine ⟨fun h => ?_, fun h => ⟨?_, h.1, by omega⟩⟩
  · have := vsum2_mono hf hg hM h0 h1 h.1; omega
  · have := vsum2_mono hf hg hM h0 h1 h.1; omega
theorem c_valueB {v0 v1 v2 v3 : Value} {ar : List Int} {ps : List Pl} {t vs : List Int} {x : Int} {w : World} (hx : valAt ar ps t vs = x) (hk : valOk ar ps t vs = true) (h0 : RdSig w v0 ar) (h1 : RdPs w v1 ps) (h2 : RdI w v2 t) (h3 : RdI w v3 vs) :
    Calls Try.prog 12 #[v0, v1, v2, v3] w fun e w' => e = .returned (.tuple #[.int .i64 x, .bool true]) ∧ Ext w w' := by subst hx; rw [← hk]; exact c_iValueAt h0 h1 h2 h3

end Go.Proofs.Ytljbjabgdalabaa
