/- Plain: the value of a term, by its tree; small forms of terms that are filled. -/
import Derived.Test.YtljbjabgdalabaaPolyVal
import Derived.Test.YtljbjabgdalabaaMSub
namespace Go.Proofs.Ytljbjabgdalabaa
set_option linter.unusedSimpArgs false
set_option linter.unusedVariables false

/-- A polynomial at some numbers. -/
def sd (p : Pl) (g : Nat → Int) : Nat → Int
  | 0 => p.c
  | k + 1 => sd p g k + nth p.cf k * g k
theorem sd_congr {p : Pl} {g h : Nat → Int} : ∀ {n : Nat}, (∀ j, j < n → g j = h j) → sd p g n = sd p h n
  | 0, _ => rfl
  | n + 1, e => by
    show sd p g n + nth p.cf n * g n = sd p h n + nth p.cf n * h n
    rw [sd_congr fun j hj => e j (by omega), e n (by omega)]
theorem sd_mono {p : Pl} {g h : Nat → Int} (hp : ∀ j, 0 ≤ nth p.cf j) : ∀ {n : Nat}, (∀ j, j < n → g j ≤ h j) → sd p g n ≤ sd p h n
  | 0, _ => Int.le_refl _
  | n + 1, e => by
    show sd p g n + nth p.cf n * g n ≤ sd p h n + nth p.cf n * h n
    have h1 := sd_mono hp (n := n) fun j hj => e j (by omega)
    have h2 := Int.mul_le_mul_of_nonneg_left (e n (by omega)) (hp n)
    omega
theorem sd_lt {p : Pl} {g h : Nat → Int} (hp : ∀ j, 0 ≤ nth p.cf j) {i : Nat} (hi : 1 ≤ nth p.cf i) (hlt : g i < h i) : ∀ {n : Nat}, i < n → (∀ j, j < n → g j ≤ h j) → sd p g n < sd p h n
  | 0, hn, _ => by omega
  | n + 1, hn, e => by
    show sd p g n + nth p.cf n * g n < sd p h n + nth p.cf n * h n
    by_cases hin : i = n
    · subst hin
      have h1 := sd_mono hp (n := i) fun j hj => e j (by omega)
      have h2 : nth p.cf i * g i < nth p.cf i * h i := Int.mul_lt_mul_of_pos_left hlt (by omega)
      omega
    · have h1 := sd_lt hp hi hlt (n := n) (by omega) fun j hj => e j (by omega)
      have h2 := Int.mul_le_mul_of_nonneg_left (e n (by omega)) (hp n)
      omega
theorem sd_nonneg {p : Pl} {g : Nat → Int} (hc : 0 ≤ p.c) (hp : ∀ j, 0 ≤ nth p.cf j) : ∀ {n : Nat}, (∀ j, j < n → 0 ≤ g j) → 0 ≤ sd p g n
  | 0, _ => hc
  | n + 1, e => by
    show 0 ≤ sd p g n + nth p.cf n * g n
    have h1 := sd_nonneg hc hp (n := n) fun j hj => e j (by omega)
    have h2 := Int.mul_nonneg (hp n) (e n (by omega))
    omega
mutual
/-- The value of a term. -/
def ev (ps : List Pl) (h : Int → Int) : Tm → Int
  | .node x us => if x < 0 then h x else sd (ps.getD x.toNat ⟨0, []⟩) (nth (evL ps h us)) us.length
def evL (ps : List Pl) (h : Int → Int) : List Tm → List Int
  | [] => []
  | a :: us => ev ps h a :: evL ps h us
end
theorem ev_node (ps : List Pl) (h : Int → Int) (x : Int) (us : List Tm) : ev ps h (.node x us) = if x < 0 then h x else sd (ps.getD x.toNat ⟨0, []⟩) (nth (evL ps h us)) us.length := by rw [ev]
theorem evL_map (ps : List Pl) (h : Int → Int) : ∀ (us : List Tm), evL ps h us = us.map (ev ps h)
  | [] => by rw [evL]; rfl
  | a :: us => by rw [evL, evL_map ps h us]; rfl
theorem nth_evL (ps : List Pl) (h : Int → Int) {us : List Tm} {j : Nat} {a : Tm} (ha : us[j]? = some a) : nth (evL ps h us) j = ev ps h a := by
  unfold nth
  rw [evL_map, List.getD_eq_getElem?_getD, List.getElem?_map, ha]; rfl
/-- What some numbers give for a variable. -/
def hv (vs : List Int) (n : Nat) (x : Int) : Int := if (-x).toNat - 1 < n then nth vs ((-x).toNat - 1) else 0
theorem vsum_var (x : Int) (vs : List Int) : ∀ n : Nat, vsum (varPl x) vs n = if (-x).toNat - 1 < n then nth vs ((-x).toNat - 1) else 0
  | 0 => by rw [if_neg (by omega)]; rfl
  | n + 1 => by
    show vsum (varPl x) vs n + nth (varPl x).cf n * nth vs n = _
    rw [vsum_var x vs n]
    have hc : nth (varPl x).cf n = if n = (-x).toNat - 1 then 1 else 0 := by
      show (List.replicate ((-x).toNat - 1) (0 : Int) ++ [(1 : Int)]).getD n 0 = _
      rw [List.getD_eq_getElem?_getD]
      by_cases h1 : n < (-x).toNat - 1
      · rw [List.getElem?_append_left (by simpa using h1), List.getElem?_replicate, if_pos h1, if_neg (by omega)]; rfl
      · rw [List.getElem?_append_right (by simpa using h1), List.length_replicate]
        by_cases h2 : n = (-x).toNat - 1
        · rw [if_pos h2, h2, Nat.sub_self]; rfl
        · rw [if_neg h2, List.getElem?_eq_none (by simp; omega)]; rfl
    rw [hc]
    by_cases h2 : n = (-x).toNat - 1
    · rw [if_pos h2, if_neg (by omega), if_pos (by omega), ← h2]; omega
    · rw [if_neg h2]
      by_cases h1 : (-x).toNat - 1 < n
      · rw [if_pos h1, if_pos (by omega)]; omega
      · rw [if_neg h1, if_neg (by omega)]; omega
theorem vsum_sumTo {p : Pl} {fs : List Pl} {vs : List Int} {n : Nat} : ∀ {k : Nat}, vsum (sumTo p fs k) vs n = sd p (fun j => vsum (fs.getD j ⟨0, []⟩) vs n) k
  | 0 => vsum_const p.c vs n
  | k + 1 => by
    show vsum (addP (sumTo p fs k) (fs.getD k ⟨0, []⟩) (p.cf.getD k 0)) vs n = _
    rw [vsum_addP, vsum_sumTo]; rfl
theorem appP_some {p : Pl} {fs : List Pl} {f : Pl} (h : appP p fs = some f) : f = sumTo p fs fs.length := by
  unfold appP at h
  split at h
  · cases h
  · cases h; rfl
mutual
/-- A form at some numbers is the value. -/
theorem form_ev {ps : List Pl} {vs : List Int} {n : Nat} : ∀ (u : Tm) {f : Pl}, form ps u = some f → vsum f vs n = ev ps (hv vs n) u
  | .node x us, f, hf => by
    rw [form_node] at hf
    rw [ev_node]
    by_cases hx : x < 0
    · rw [if_pos hx] at hf ⊢
      cases hf
      rw [vsum_var]; rfl
    · rw [if_neg hx] at hf ⊢
      obtain ⟨fs, h1, h2⟩ := Option.bind_eq_some_iff.1 hf
      obtain ⟨h3, h4⟩ := formL_ev us h1
      rw [appP_some h2, vsum_sumTo, h3]
      exact sd_congr fun j hj => h4 j hj
theorem formL_ev {ps : List Pl} {vs : List Int} {n : Nat} : ∀ (us : List Tm) {fs : List Pl}, formL ps us = some fs → fs.length = us.length ∧ ∀ j, j < us.length → vsum (fs.getD j ⟨0, []⟩) vs n = nth (evL ps (hv vs n) us) j
  | [], fs, h => by
    rw [formL_nil] at h; cases h
    exact ⟨rfl, fun j hj => by simp at hj⟩
  | a :: us, fs, h => by
    rw [formL_cons] at h
    obtain ⟨f, h1, h2⟩ := Option.bind_eq_some_iff.1 h
    obtain ⟨gs, h4, rfl⟩ := Option.map_eq_some_iff.1 h2
    obtain ⟨h5, h6⟩ := formL_ev us h4
    refine ⟨by simp [h5], fun j hj => ?_⟩
    cases j with
    | zero =>
      show vsum f vs n = nth (evL ps (hv vs n) (a :: us)) 0
      rw [form_ev a h1, nth_evL ps (hv vs n) (us := a :: us) (j := 0) rfl]
    | succ j =>
      have := h6 j (by simpa using hj)
      rw [evL]
      exact this
end
mutual
theorem ev_congr {ps : List Pl} {h k : Int → Int} : ∀ (u : Tm), (∀ x ∈ u.flat, x < 0 → h x = k x) → ev ps h u = ev ps k u
  | .node x us, e => by
    rw [flat_node] at e
    rw [ev_node, ev_node, evL_congr us fun y hy => e y (List.mem_cons_of_mem _ hy)]
    by_cases hx : x < 0
    · rw [if_pos hx, if_pos hx, e x List.mem_cons_self hx]
    · rw [if_neg hx, if_neg hx]
theorem evL_congr {ps : List Pl} {h k : Int → Int} : ∀ (us : List Tm), (∀ x ∈ flatL us, x < 0 → h x = k x) → evL ps h us = evL ps k us
  | [], _ => by rw [evL, evL]
  | a :: us, e => by
    rw [flatL_cons] at e
    rw [evL, evL, ev_congr a fun y hy => e y (List.mem_append_left _ hy), evL_congr us fun y hy => e y (List.mem_append_right _ hy)]
end
mutual
/-- The value of a term that is filled. -/
theorem ev_sub {ps : List Pl} {h : Int → Int} {g : Int → Tm} : ∀ (u : Tm), ev ps h (u.sub g) = ev ps (fun x => ev ps h (g x)) u
  | .node x us => by
    rw [sub_node, ev_node]
    by_cases hx : x < 0
    · rw [if_pos hx, if_pos hx]
    · rw [if_neg hx, if_neg hx, ev_node, if_neg hx, subL_len, evL_sub us]
theorem evL_sub {ps : List Pl} {h : Int → Int} {g : Int → Tm} : ∀ (us : List Tm), evL ps h (subL g us) = evL ps (fun x => ev ps h (g x)) us
  | [] => by rw [subL_nil, evL, evL]
  | a :: us => by rw [subL_cons, evL, evL, ev_sub a, evL_sub us]
end
/-- No number of the polynomials is negative. -/
def Pos (ps : List Pl) : Prop := ∀ k : Nat, 0 ≤ (ps.getD k ⟨0, []⟩).c ∧ ∀ j, 0 ≤ nth (ps.getD k ⟨0, []⟩).cf j
theorem Sm.pos {ps : List Pl} (h : Sm ps) : Pos ps := fun k => ⟨(h.get k).1.1, fun j => ((h.get k).2 j).1⟩
mutual
theorem ev_nonneg {ps : List Pl} (hp : Pos ps) {h : Int → Int} (hh : ∀ x, 0 ≤ h x) : ∀ (u : Tm), 0 ≤ ev ps h u
  | .node x us => by
    rw [ev_node]
    by_cases hx : x < 0
    · rw [if_pos hx]; exact hh x
    · rw [if_neg hx]
      exact sd_nonneg (hp _).1 (hp _).2 fun j hj => evL_nonneg hp hh us j
theorem evL_nonneg {ps : List Pl} (hp : Pos ps) {h : Int → Int} (hh : ∀ x, 0 ≤ h x) : ∀ (us : List Tm) (j : Nat), 0 ≤ nth (evL ps h us) j
  | [], j => by rw [evL]; simp [nth]
  | a :: us, j => by
    rw [evL]
    cases j with
    | zero => exact ev_nonneg hp hh a
    | succ j => exact evL_nonneg hp hh us j
end
theorem hv_nonneg {vs : List Int} {n : Nat} (h : ∀ k, 0 ≤ nth vs k) (x : Int) : 0 ≤ hv vs n x := by
  unfold hv
  split
  · exact h _
  · exact Int.le_refl _
/-- Compared forms, at numbers. -/
theorem vsum_le {a b : Pl} {vs : List Int} (hb : ∀ j, 0 ≤ nth b.cf j) (hvs : ∀ k, 0 ≤ nth vs k) (h : most a b = true) : ∀ n : Nat, vsum a vs n - a.c ≤ vsum b vs n - b.c
  | 0 => by show a.c - a.c ≤ b.c - b.c; omega
  | n + 1 => by
    have ih := vsum_le hb hvs h n
    have hm : Most a b := by unfold most at h; simpa using h
    have hn : nth a.cf n ≤ nth b.cf n := by
      rcases hj : a.cf[n]? with _ | x
      · have : nth a.cf n = 0 := by unfold nth; rw [List.getD_eq_getElem?_getD, hj]; rfl
        rw [this]; exact hb n
      · have : nth a.cf n = x := by unfold nth; rw [List.getD_eq_getElem?_getD, hj]; rfl
        rw [this]; exact hm n x hj
    have := Int.mul_le_mul_of_nonneg_right hn (hvs n)
    show vsum a vs n + nth a.cf n * nth vs n - a.c ≤ vsum b vs n + nth b.cf n * nth vs n - b.c
    omega
theorem cmp_vals {a b : Pl} {vs : List Int} (hb : ∀ j, 0 ≤ nth b.cf j) (hvs : ∀ k, 0 ≤ nth vs k) (n : Nat) :
    (cmpMost (some a) (some b) = true → vsum a vs n ≤ vsum b vs n) ∧ (cmpLess (some a) (some b) = true → vsum a vs n < vsum b vs n) := by
  unfold cmpMost cmpLess
  simp only [Bool.and_eq_true, decide_eq_true_eq]
  refine ⟨fun h => ?_, fun h => ?_⟩ <;> have := vsum_le hb hvs h.1 n <;> omega

/-- Powers of three. -/
def p3 (n : Nat) : Int := (3 : Int) ^ n
theorem p3_succ (n : Nat) : p3 (n + 1) = 3 * p3 n := by unfold p3; rw [Int.pow_succ]; omega
theorem p3_add (a b : Nat) : p3 (a + b) = p3 a * p3 b := by unfold p3; rw [Int.pow_add]
theorem p3_pos : ∀ n : Nat, 1 ≤ p3 n
  | 0 => by decide
  | n + 1 => by have := p3_pos n; rw [p3_succ]; omega
theorem p3_mono : ∀ {a b : Nat}, a ≤ b → p3 a ≤ p3 b
  | a, 0, h => by obtain rfl : a = 0 := by omega
                  exact Int.le_refl _
  | a, b + 1, h => by
    rcases Nat.lt_or_ge a (b + 1) with h1 | h1
    · have := p3_mono (show a ≤ b by omega)
      have := p3_pos b
      rw [p3_succ]; omega
    · obtain rfl : a = b + 1 := by omega
      exact Int.le_refl _
theorem p3_one {E a : Nat} (ha : 1 ≤ a) : 2 + 2 * p3 (E + a) ≤ p3 (E + (1 + a)) := by
  rw [show E + (1 + a) = (E + a) + 1 by omega, p3_succ]
  have h1 : p3 1 ≤ p3 (E + a) := p3_mono (by omega)
  have h3 : p3 1 = 3 := by decide
  omega
theorem p3_two {E a b : Nat} (ha : 1 ≤ a) (hb : 1 ≤ b) : 2 + 2 * p3 (E + a) + 2 * p3 (E + b) ≤ p3 (E + (1 + (a + b))) := by
  rw [show E + (1 + (a + b)) = (E + a + b) + 1 by omega, p3_succ, p3_add (E + a) b]
  have h3 : p3 1 = 3 := by decide
  have h1 : p3 1 ≤ p3 a := p3_mono ha
  have h2 : p3 1 ≤ p3 b := p3_mono hb
  have h4 : p3 1 ≤ p3 (E + a) := p3_mono (by omega)
  have h5 : p3 (E + a) * 3 ≤ p3 (E + a) * p3 b := Int.mul_le_mul_of_nonneg_left (by omega) (by omega)
  have h6 : 3 * p3 (E + b) ≤ p3 (E + a) * p3 b := by
    rw [p3_add E b, p3_add E a]
    have h7 : p3 E * p3 b * 3 ≤ p3 E * p3 b * p3 a := Int.mul_le_mul_of_nonneg_left (by omega) (Int.mul_nonneg (by have := p3_pos E; omega) (by omega))
    have h8 : p3 E * p3 a * p3 b = p3 E * p3 b * p3 a := by rw [Int.mul_assoc, Int.mul_comm (p3 a), ← Int.mul_assoc]
    omega
  omega
/-- The form is there; its numbers are at most 3 by E and e. -/
def Fu (ps : List Pl) (E : Nat) (u : Tm) (e : Nat) : Prop := 1 ≤ e ∧ ∃ f, form ps u = some f ∧ Upto (p3 (E + e)) f
theorem Fu.mono {ps : List Pl} {E E' e e' : Nat} {u : Tm} (h : Fu ps E u e) (hE : E + e ≤ E' + e') (he : 1 ≤ e') : Fu ps E' u e' := by
  obtain ⟨h1, f, h2, h3⟩ := h
  exact ⟨he, f, h2, h3.mono (p3_mono hE)⟩
theorem fin3 {n : Nat} (h : n ≤ 25) : p3 n ≤ 1000000000000 := Int.le_trans (p3_mono h) (by decide)
/-- A head and its arguments. -/
theorem fu_node {ps : List Pl} (h : Sm ps) {E : Nat} {x : Int} (hx : 0 ≤ x) : ∀ {us : List Tm} {es : List Nat}, us.length ≤ 2 → es.length = us.length → (∀ (j : Nat) (u : Tm) (e : Nat), us[j]? = some u → es[j]? = some e → Fu ps E u e) → E + (1 + es.sum) ≤ 25 → Fu ps E (.node x us) (1 + es.sum)
  | us, es, h2, hl, hf, hs => by
    refine ⟨by omega, ?_⟩
    rw [form_node, if_neg (by omega)]
    have hp := h.get x.toNat
    generalize ps.getD x.toNat ⟨0, []⟩ = p at hp ⊢
    have h0 : Upto 2 ⟨p.c, []⟩ := ⟨hp.1, fun x hx => by cases hx⟩
    have fin := fin3 hs
    match us, es, h2, hl, hf with
    | [], [], _, _, _ =>
      rw [formL_nil]
      have key : Upto (p3 (E + (1 + ([] : List Nat).sum))) ⟨p.c, []⟩ := h0.mono (Int.le_trans (show (2 : Int) ≤ p3 1 by decide) (p3_mono (by omega)))
      refine ⟨⟨p.c, []⟩, ?_, key⟩
      show appP p [] = _
      unfold appP
      exact if_neg (not_big key fin)
    | [a], [e], _, _, hf =>
      obtain ⟨l1, f, e1, u1⟩ := hf 0 a e rfl rfl
      have := addP_upto2 h0 (by omega) u1 (by have := p3_pos (E + e); omega) (hp.2 0)
      have key : Upto (p3 (E + (1 + [e].sum))) (addP ⟨p.c, []⟩ f (p.cf.getD 0 0)) := this.mono (by simpa using p3_one l1)
      refine ⟨_, ?_, key⟩
      rw [formL_cons, formL_nil, e1]
      show appP p [f] = _
      unfold appP
      exact if_neg (not_big key fin)
    | [a, b], [e, e'], _, _, hf =>
      obtain ⟨l1, f, e1, u1⟩ := hf 0 a e rfl rfl
      obtain ⟨l2, g, e2, u2⟩ := hf 1 b e' rfl rfl
      have q1 := p3_pos (E + e)
      have q2 := p3_pos (E + e')
      have := addP_upto2 (addP_upto2 h0 (by omega) u1 (by omega) (hp.2 0)) (by omega) u2 (by omega) (hp.2 1)
      have key : Upto (p3 (E + (1 + [e, e'].sum))) (addP (addP ⟨p.c, []⟩ f (p.cf.getD 0 0)) g (p.cf.getD 1 0)) := this.mono (by simpa using p3_two l1 l2)
      refine ⟨_, ?_, key⟩
      rw [formL_cons, formL_cons, formL_nil, e1, e2]
      show appP p [f, g] = _
      unfold appP
      exact if_neg (not_big key fin)
    | [], _ :: _, _, hl, _ => simp at hl
    | [a], [], _, hl, _ => simp at hl
    | [a], _ :: _ :: _, _, hl, _ => simp at hl
    | [a, b], [], _, hl, _ => simp at hl
    | [a, b], [_], _, hl, _ => simp at hl
    | [a, b], _ :: _ :: _ :: _, _, hl, _ => simp at hl
    | _ :: _ :: _ :: _, _, h2, _, _ => simp at h2
theorem sum_flat : ∀ (us : List Tm), (us.map fun u => u.flat.length).sum = (flatL us).length
  | [] => by rw [flatL_nil]; rfl
  | a :: us => by rw [List.map_cons, List.sum_cons, sum_flat us, flatL_cons, List.length_append]
theorem args_two {x : Int} {us : List Tm} (h1 : arI [2, 1, 0] x = some us.length) (hx : ¬ x < 0) : us.length ≤ 2 := by
  have hx3 : x < 3 := arI_lt h1
  have hx' : x = 0 ∨ x = 1 ∨ x = 2 := by omega
  rcases hx' with rfl | rfl | rfl <;> simp [arI] at h1 <;> omega
mutual
/-- .. of a term that is filled. -/
theorem fu_sub {ps : List Pl} (h : Sm ps) {E : Nat} {g : Int → Tm} : ∀ (u : Tm), u.Ok [2, 1, 0] → (∀ x ∈ u.flat, x < 0 → Fu ps E (g x) 1) → E + u.flat.length ≤ 25 → Fu ps E (u.sub g) u.flat.length
  | .node x us, ho, hg, hl => by
    obtain ⟨h1, h2⟩ := Ok_node.1 ho
    rw [flat_node, List.length_cons] at hl ⊢
    rw [flat_node] at hg
    by_cases hx : x < 0
    · rw [sub_var hx]
      exact (hg x List.mem_cons_self hx).mono (by omega) (by omega)
    · rw [sub_sym hx, Nat.add_comm, ← sum_flat us]
      refine fu_node h (by omega) (by rw [subL_len]; exact args_two h1 hx) (by rw [subL_len, List.length_map]) (fun j u e hu he => ?_) (by rw [sum_flat]; omega)
      rw [List.getElem?_map] at he
      obtain ⟨v, hv, rfl⟩ := Option.map_eq_some_iff.1 he
      rw [subL_map, List.getElem?_map, hv] at hu
      cases hu
      exact fuL_sub h us h2 (fun y hy => hg y (List.mem_cons_of_mem _ hy)) (by omega) v (List.mem_of_getElem? hv)
theorem fuL_sub {ps : List Pl} (h : Sm ps) {E : Nat} {g : Int → Tm} : ∀ (us : List Tm), OkL [2, 1, 0] us → (∀ x ∈ flatL us, x < 0 → Fu ps E (g x) 1) → E + (flatL us).length ≤ 25 → ∀ v ∈ us, Fu ps E (v.sub g) v.flat.length
  | [], _, _, _, v, hv => by cases hv
  | a :: us, ho, hg, hl, v, hv => by
    obtain ⟨h1, h2⟩ := OkL_cons.1 ho
    rw [flatL_cons] at hg hl
    rw [List.length_append] at hl
    rcases List.mem_cons.1 hv with e | hv
    · rw [e]; exact fu_sub h a h1 (fun y hy => hg y (List.mem_append_left _ hy)) (by omega)
    · exact fuL_sub h us h2 (fun y hy => hg y (List.mem_append_right _ hy)) (by omega) v hv
end
mutual
theorem sub_self {ar : List Int} : ∀ (u : Tm), u.Ok ar → u.sub (fun x => .node x []) = u
  | .node x us, ho => by
    obtain ⟨h1, h2⟩ := Ok_node.1 ho
    by_cases hx : x < 0
    · rw [arI_var hx] at h1
      have e : us = [] := List.length_eq_zero_iff.1 (Option.some.inj h1).symm
      subst e
      rw [sub_var hx]
    · rw [sub_sym hx, subL_self us h2]
theorem subL_self {ar : List Int} : ∀ (us : List Tm), OkL ar us → subL (fun x => .node x []) us = us
  | [], _ => by rw [subL_nil]
  | a :: us, ho => by
    obtain ⟨h1, h2⟩ := OkL_cons.1 ho
    rw [subL_cons, sub_self a h1, subL_self us h2]
end
theorem fu_var {ps : List Pl} {x : Int} (hx : x < 0) : Fu ps 0 (.node x []) 1 :=
  ⟨Nat.le_refl _, varPl x, by rw [form_node, if_pos hx], varPl_upto.mono (by decide)⟩
/-- .. of any term. -/
theorem fu_self {ps : List Pl} (h : Sm ps) {u : Tm} (ho : u.Ok [2, 1, 0]) (hl : u.flat.length ≤ 25) : Fu ps 0 u u.flat.length := by
  have := fu_sub h (E := 0) (g := fun x => .node x []) u ho (fun x _ hx => fu_var hx) (by omega)
  rwa [sub_self u ho] at this
/-- How many variables a form has. -/
def lenV (m : Nat) (f : Pl) : Prop := f.cf.length ≤ m
mutual
theorem form_len {ps : List Pl} {m : Nat} : ∀ (u : Tm), (∀ x ∈ u.flat, -(m : Int) ≤ x) → ∀ {f : Pl}, form ps u = some f → f.cf.length ≤ m
  | .node x us, hv, f, hf => by
    rw [form_node] at hf
    rw [flat_node] at hv
    by_cases hx : x < 0
    · rw [if_pos hx] at hf
      cases hf
      have := hv x List.mem_cons_self
      simp only [varPl, List.length_append, List.length_replicate, List.length_singleton]
      omega
    · rw [if_neg hx] at hf
      obtain ⟨fs, h1, h2⟩ := Option.bind_eq_some_iff.1 hf
      have hfs := formL_len us (fun y hy => hv y (List.mem_cons_of_mem _ hy)) h1
      rw [appP_some h2]
      have : ∀ k, (sumTo (ps.getD x.toNat ⟨0, []⟩) fs k).cf.length ≤ m := by
        intro k
        induction k with
        | zero => simp [sumTo]
        | succ k ih =>
          have h9 : (fs.getD k ⟨0, []⟩).cf.length ≤ m := by
            rw [List.getD_eq_getElem?_getD]
            rcases hk : fs[k]? with _ | f
            · exact Nat.zero_le _
            · exact hfs f (List.mem_of_getElem? hk)
          show (addL _ _ _).length ≤ m
          rw [addL_len]
          omega
      exact this _
theorem formL_len {ps : List Pl} {m : Nat} : ∀ (us : List Tm), (∀ x ∈ flatL us, -(m : Int) ≤ x) → ∀ {fs : List Pl}, formL ps us = some fs → ∀ f ∈ fs, f.cf.length ≤ m
  | [], _, fs, h => by rw [formL_nil] at h; cases h; intro f hf; cases hf
  | a :: us, hv, fs, h => by
    rw [flatL_cons] at hv
    rw [formL_cons] at h
    obtain ⟨f, h1, h2⟩ := Option.bind_eq_some_iff.1 h
    obtain ⟨gs, h4, rfl⟩ := Option.map_eq_some_iff.1 h2
    intro q hq
    rcases List.mem_cons.1 hq with rfl | hq
    · exact form_len a (fun y hy => hv y (List.mem_append_left _ hy)) h1
    · exact formL_len us (fun y hy => hv y (List.mem_append_right _ hy)) h4 q hq
end
/-- .. upwards. -/
theorem ev_up {ps : List Pl} (hp : Pos ps) {h : Int → Int} {x : Int} {ls bs : List Tm} {a b : Tm} (hx : 0 ≤ x) (hab : ev ps h b ≤ ev ps h a) : ev ps h (.node x (ls ++ b :: bs)) ≤ ev ps h (.node x (ls ++ a :: bs)) ∧ (1 ≤ nth (ps.getD x.toNat ⟨0, []⟩).cf ls.length → ev ps h b < ev ps h a → ev ps h (.node x (ls ++ b :: bs)) < ev ps h (.node x (ls ++ a :: bs))) := by
  rw [ev_node, ev_node, if_neg (by omega), if_neg (by omega)]
  have hb : nth (evL ps h (ls ++ b :: bs)) ls.length = ev ps h b := nth_evL ps h (by rw [List.getElem?_append_right (Nat.le_refl _), Nat.sub_self]; rfl)
  have ha : nth (evL ps h (ls ++ a :: bs)) ls.length = ev ps h a := nth_evL ps h (by rw [List.getElem?_append_right (Nat.le_refl _), Nat.sub_self]; rfl)
  have hj : ∀ j, j ≠ ls.length → nth (evL ps h (ls ++ b :: bs)) j = nth (evL ps h (ls ++ a :: bs)) j := by
    intro j hj
    have e : ∀ c : Tm, (ls ++ c :: bs)[j]? = if j < ls.length then ls[j]? else bs[j - ls.length - 1]? := by
      intro c
      by_cases h1 : j < ls.length
      · rw [if_pos h1, List.getElem?_append_left h1]
      · rw [if_neg h1, List.getElem?_append_right (by omega), show j - ls.length = (j - ls.length - 1) + 1 by omega]; rfl
    unfold nth
    rw [evL_map, evL_map, List.getD_eq_getElem?_getD, List.getD_eq_getElem?_getD, List.getElem?_map, List.getElem?_map, e, e]
  have hall : ∀ j, j < (ls ++ b :: bs).length → nth (evL ps h (ls ++ b :: bs)) j ≤ nth (evL ps h (ls ++ a :: bs)) j := by
    intro j _
    by_cases e : j = ls.length
    · subst e; rw [ha, hb]; exact hab
    · rw [hj j e]; exact Int.le_refl _
  have hlen : (ls ++ a :: bs).length = (ls ++ b :: bs).length := by simp
  rw [hlen]
  exact ⟨sd_mono (hp _).2 hall, fun h1 h2 => sd_lt (hp _).2 h1 (by rw [ha, hb]; exact h2) (by simp) hall⟩

end Go.Proofs.Ytljbjabgdalabaa
