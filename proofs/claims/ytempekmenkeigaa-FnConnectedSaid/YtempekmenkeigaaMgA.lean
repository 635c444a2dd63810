/- Several texts in one: Model, MTerm, MTree, MSys, MDep, MWt, MOften, MKbo, MPoly, MForm, MSub, MStep, MUn, MCap, MCapW. -/

/-! Model -/
namespace Go.Proofs.Ytempekmenkeigaa

/-- What is left of a size, or -1. -/
def szI (left : Int) (n : Nat) : Int := if left - n < 0 then -1 else left - n
theorem szI_le (left : Int) (n : Nat) (h : -1 ≤ left) : szI left n ≤ left := by unfold szI; split <;> omega
theorem szI_lo (left : Int) (n : Nat) : -1 ≤ szI left n := by unfold szI; split <;> omega
theorem szI_bd (left : Int) (n : Nat) (h : -1 ≤ left ∧ left ≤ 1048576) : -1 ≤ szI left n ∧ szI left n ≤ 1048576 := ⟨szI_lo _ _, Int.le_trans (szI_le _ _ h.1) h.2⟩
theorem szI_nonneg {left : Int} {n : Nat} (h : 0 ≤ szI left n) : n ≤ left ∧ szI left n = left - n := by
  unfold szI at h ⊢
  by_cases hc : left - n < 0
  · rw [if_pos hc] at h; omega
  · rw [if_neg hc]; exact ⟨by omega, rfl⟩

theorem szI_neg {left : Int} {n m : Nat} (h : szI left n < 0) : szI (szI left n) m = -1 := by
  have := szI_lo left n
  rw [szI, if_pos (by omega)]
theorem szI_m1 {left : Int} {n : Nat} (h : left - n < 0) : szI left n = -1 := by rw [szI, if_pos h]
theorem szI_sub {left : Int} {n : Nat} (h : 0 ≤ left - n) : szI left n = left - n := by rw [szI, if_neg (by omega)]

theorem take_snoc {α : Type} {ar : List α} {k : Nat} {x : α} (hx : ar[k]? = some x) : ar.take (k + 1) = ar.take k ++ [x] := by
  obtain ⟨hk, rfl⟩ := List.getElem?_eq_some_iff.1 hx
  exact List.take_succ_eq_append_getElem hk

/-- A right signature. -/
def SigP (ar : List Int) : Prop := 1 ≤ ar.length ∧ ar.length ≤ 8 ∧ ∀ n ∈ ar, 0 ≤ n ∧ n ≤ 3
instance (ar : List Int) : Decidable (SigP ar) := by unfold SigP; infer_instance
def sigOk (ar : List Int) : Bool := decide (SigP ar)
theorem sigOk_iff {ar : List Int} : sigOk ar = true ↔ SigP ar := by simp [sigOk]
theorem sigOk_len {ar : List Int} (h : ¬ (1 ≤ ar.length ∧ ar.length ≤ 8)) : sigOk ar = false := by
  simp only [sigOk, decide_eq_false_iff_not]; rintro ⟨a, b, _⟩; exact h ⟨a, b⟩
theorem sigOk_at {ar : List Int} {k : Nat} {x : Int} (hx : ar[k]? = some x) (h : ¬ (0 ≤ x ∧ x ≤ 3)) : sigOk ar = false := by
  simp only [sigOk, decide_eq_false_iff_not]; rintro ⟨_, _, c⟩; exact h (c x (List.mem_of_getElem? hx))
theorem sigOk_all {ar : List Int} (h1 : 1 ≤ ar.length) (h2 : ar.length ≤ 8) (h : ∀ j x, j < ar.length → ar[j]? = some x → 0 ≤ x ∧ x ≤ 3) : sigOk ar = true := by
  refine sigOk_iff.2 ⟨h1, h2, fun n hn => ?_⟩
  obtain ⟨j, hj, e⟩ := List.mem_iff_getElem.1 hn
  exact h j n hj (by rw [List.getElem?_eq_getElem hj, e])

/-- A right projection. -/
def ProjP (ar pr : List Int) : Prop := SigP ar ∧ pr.length = ar.length ∧ ∀ (j : Nat) (x n : Int), pr[j]? = some x → ar[j]? = some n → -1 ≤ x ∧ x < n
noncomputable def projOk (ar pr : List Int) : Bool := @decide (ProjP ar pr) (Classical.propDecidable _)
theorem projOk_sig {ar pr : List Int} (h : sigOk ar = false) : projOk ar pr = false := by
  simp only [projOk, decide_eq_false_iff_not]; rintro ⟨a, _⟩; rw [sigOk_iff.2 a] at h; cases h
theorem projOk_len {ar pr : List Int} (h : ¬ pr.length = ar.length) : projOk ar pr = false := by
  simp only [projOk, decide_eq_false_iff_not]; rintro ⟨_, a, _⟩; exact h a
theorem projOk_at {ar pr : List Int} {k : Nat} {x n : Int} (hx : pr[k]? = some x) (hn : ar[k]? = some n) (h : ¬ (-1 ≤ x ∧ x < n)) : projOk ar pr = false := by
  simp only [projOk, decide_eq_false_iff_not]; rintro ⟨_, _, a⟩; exact h (a k x n hx hn)
theorem projOk_all {ar pr : List Int} (h1 : sigOk ar = true) (h2 : pr.length = ar.length) (h : ∀ (j : Nat) (x n : Int), j < pr.length → pr[j]? = some x → ar[j]? = some n → -1 ≤ x ∧ x < n) : projOk ar pr = true := by
  simp only [projOk, decide_eq_true_eq]
  exact ⟨sigOk_iff.1 h1, h2, fun j x n hx hn => h j x n (List.getElem?_eq_some_iff.1 hx).1 hx hn⟩

structure DepP where
  l : List Int
  r : List Int
  rule : Int
  at_ : Int

def DepP.same (a b : DepP) : Bool := a.l == b.l && a.r == b.r && a.rule == b.rule && a.at_ == b.at_

end Go.Proofs.Ytempekmenkeigaa

/-! Plain: terms in prefix form. -/
namespace Go.Proofs.Ytempekmenkeigaa

/-- How many arguments a number has; by the program: whatever is below nought is a variable. -/
def arI (ar : List Int) (x : Int) : Option Nat := if x < 0 then some 0 else if x < ar.length then some (ar.getD x.toNat 0).toNat else none
/-- The same by the reference: variables from -24 on. -/
def arS (ar : List Int) (x : Int) : Option Nat := if -24 ≤ x ∧ x ≤ -1 then some 0 else if 0 ≤ x ∧ x < ar.length then some (ar.getD x.toNat 0).toNat else none
/-- How many numbers hold so many terms. -/
def scan (f : Int → Option Nat) : List Int → Nat → Option Nat
  | _, 0 => some 0
  | [], _ + 1 => none
  | x :: xs, nd + 1 => match f x with
    | none => none
    | some a => (scan f xs (nd + a)).map (· + 1)
theorem scan_zero (f : Int → Option Nat) (t : List Int) : scan f t 0 = some 0 := by cases t <;> rfl
theorem scan_nil (f : Int → Option Nat) (nd : Nat) : scan f [] (nd + 1) = none := rfl
theorem scan_cons_none {f : Int → Option Nat} {x : Int} {xs : List Int} {nd : Nat} (h : f x = none) : scan f (x :: xs) (nd + 1) = none := by rw [scan, h]
theorem scan_cons_some {f : Int → Option Nat} {x : Int} {xs : List Int} {nd a : Nat} (h : f x = some a) : scan f (x :: xs) (nd + 1) = (scan f xs (nd + a)).map (· + 1) := by rw [scan, h]
theorem scan_le {f : Int → Option Nat} : ∀ {t : List Int} {nd k : Nat}, scan f t nd = some k → k ≤ t.length
  | _, 0, k, h => by rw [scan_zero] at h; cases h; exact Nat.zero_le _
  | [], nd + 1, k, h => by cases h
  | x :: xs, nd + 1, k, h => by
    rcases hf : f x with _ | a
    · rw [scan_cons_none hf] at h; cases h
    · rw [scan_cons_some hf] at h
      obtain ⟨k', hk', rfl⟩ := Option.map_eq_some_iff.1 h
      have := scan_le hk'
      simp; omega
theorem arS_arI {ar : List Int} {x : Int} (h : -24 ≤ x) : arS ar x = arI ar x := by
  unfold arS arI
  by_cases h0 : x < 0
  · rw [if_pos (by omega), if_pos h0]
  · rw [if_neg (by omega), if_neg h0]
    by_cases h1 : x < ar.length
    · rw [if_pos ⟨by omega, h1⟩, if_pos h1]
    · rw [if_neg (by omega), if_neg h1]
theorem arS_lo {ar : List Int} {x : Int} {a : Nat} (h : arS ar x = some a) : -24 ≤ x := by
  unfold arS at h
  by_cases h0 : -24 ≤ x ∧ x ≤ -1
  · exact h0.1
  · rw [if_neg h0] at h
    by_cases h1 : 0 ≤ x ∧ x < ar.length
    · omega
    · rw [if_neg h1] at h; cases h
theorem scan_SI {ar : List Int} : ∀ {t : List Int} {nd k : Nat}, scan (arS ar) t nd = some k ↔ scan (arI ar) t nd = some k ∧ ∀ x ∈ t.take k, -24 ≤ x
  | _, 0, k => by
    rw [scan_zero, scan_zero]
    constructor
    · intro h; cases h; simp
    · exact fun h => h.1
  | [], nd + 1, k => by rw [scan_nil, scan_nil]; simp
  | x :: xs, nd + 1, k => by
    by_cases hx : -24 ≤ x
    · have e := arS_arI (ar := ar) hx
      rcases hf : arI ar x with _ | a
      · rw [scan_cons_none (e.trans hf), scan_cons_none hf]; simp
      · rw [scan_cons_some (e.trans hf), scan_cons_some hf, Option.map_eq_some_iff, Option.map_eq_some_iff]
        constructor
        · rintro ⟨k', h, rfl⟩
          have := scan_SI.1 h
          refine ⟨⟨k', this.1, rfl⟩, fun y hy => ?_⟩
          rw [List.take_succ_cons] at hy
          rcases List.mem_cons.1 hy with rfl | hy
          · exact hx
          · exact this.2 y hy
        · rintro ⟨⟨k', h, rfl⟩, hall⟩
          exact ⟨k', scan_SI.2 ⟨h, fun y hy => hall y (by rw [List.take_succ_cons]; exact List.mem_cons_of_mem _ hy)⟩, rfl⟩
    · constructor
      · intro h
        rcases hf : arS ar x with _ | a
        · rw [scan_cons_none hf] at h; cases h
        · exact absurd (arS_lo hf) hx
      · rintro ⟨h, hall⟩
        exfalso
        rcases hf : arI ar x with _ | a
        · rw [scan_cons_none hf] at h; cases h
        · rw [scan_cons_some hf] at h
          obtain ⟨k', _, rfl⟩ := Option.map_eq_some_iff.1 h
          exact hx (hall x (by rw [List.take_succ_cons]; exact List.mem_cons_self))

/-- A right term. -/
def TermP (ar t : List Int) : Prop := SigP ar ∧ (1 ≤ t.length ∧ t.length ≤ 60) ∧ (∀ x ∈ t, -24 ≤ x) ∧ scan (arI ar) t 1 = some t.length
noncomputable def termOk (ar t : List Int) : Bool := @decide (TermP ar t) (Classical.propDecidable _)
theorem termOk_iff {ar t : List Int} : termOk ar t = true ↔ TermP ar t := by simp [termOk]
theorem termOk_f {ar t : List Int} (h : ¬ TermP ar t) : termOk ar t = false := by simp only [termOk, decide_eq_false_iff_not]; exact h
theorem termOk_sig {ar t : List Int} (h : sigOk ar = false) : termOk ar t = false := termOk_f fun a => by rw [sigOk_iff.2 a.1] at h; cases h
theorem termP_S {ar t : List Int} : TermP ar t ↔ SigP ar ∧ (1 ≤ t.length ∧ t.length ≤ 60) ∧ scan (arS ar) t 1 = some t.length := by
  unfold TermP
  rw [scan_SI, List.take_length]
  constructor
  · rintro ⟨a, b, c, d⟩; exact ⟨a, b, d, c⟩
  · rintro ⟨a, b, d, c⟩; exact ⟨a, b, c, d⟩

/-- Where what begins at a place ends, or -1. -/
def endF (f : Int → Option Nat) (t : List Int) (at_ : Nat) : Int := match scan f (t.drop at_) 1 with
  | some k => (at_ + k : Nat)
  | none => -1
def endI (ar t : List Int) (at_ : Nat) : Int := endF (arI ar) t at_
def endS (ar t : List Int) (at_ : Nat) : Int := endF (arS ar) t at_
theorem endF_len {f : Int → Option Nat} {t : List Int} : endF f t 0 = t.length ↔ scan f t 1 = some t.length := by
  unfold endF
  rw [List.drop_zero]
  rcases scan f t 1 with _ | k
  · simp
    try omega
  · simp
    try omega
theorem endF_le {f : Int → Option Nat} {t : List Int} {at_ : Nat} (h : at_ ≤ t.length) : endF f t at_ ≤ t.length ∧ -1 ≤ endF f t at_ := by
  unfold endF
  rcases hs : scan f (t.drop at_) 1 with _ | k
  · simp
    try omega
  · have := scan_le hs
    rw [List.length_drop] at this
    simp; omega

/-- The walk of a scan: from p on so many terms are still wanted. -/
def ScanAt (f : Int → Option Nat) (t : List Int) (at_ p nd : Nat) : Prop := at_ ≤ p ∧ p ≤ t.length ∧ scan f (t.drop at_) 1 = (scan f (t.drop p) nd).map (· + (p - at_))
theorem ScanAt.start {f : Int → Option Nat} {t : List Int} {at_ : Nat} (h : at_ ≤ t.length) : ScanAt f t at_ at_ 1 := ⟨Nat.le_refl _, h, by simp⟩
theorem ScanAt.done {f : Int → Option Nat} {t : List Int} {at_ p : Nat} (h : ScanAt f t at_ p 0) : endF f t at_ = p := by
  obtain ⟨h1, _, h2⟩ := h
  unfold endF
  rw [h2, scan_zero]
  simp; omega
theorem ScanAt.out {f : Int → Option Nat} {t : List Int} {at_ p nd : Nat} (h : ScanAt f t at_ p (nd + 1)) (hp : p = t.length) : endF f t at_ = -1 := by
  obtain ⟨_, _, h2⟩ := h
  unfold endF
  rw [h2, hp, List.drop_length, scan_nil]
  rfl
theorem ScanAt.bad {f : Int → Option Nat} {t : List Int} {at_ p nd : Nat} {x : Int} (h : ScanAt f t at_ p (nd + 1)) (hx : t[p]? = some x) (hf : f x = none) : endF f t at_ = -1 := by
  obtain ⟨_, _, h2⟩ := h
  obtain ⟨hl, rfl⟩ := List.getElem?_eq_some_iff.1 hx
  unfold endF
  rw [h2, List.drop_eq_getElem_cons hl, scan_cons_none hf]
  rfl
theorem ScanAt.step {f : Int → Option Nat} {t : List Int} {at_ p nd a : Nat} {x : Int} (h : ScanAt f t at_ p (nd + 1)) (hx : t[p]? = some x) (hf : f x = some a) : ScanAt f t at_ (p + 1) (nd + a) := by
  obtain ⟨h1, h0, h2⟩ := h
  obtain ⟨hl, rfl⟩ := List.getElem?_eq_some_iff.1 hx
  refine ⟨by omega, by omega, ?_⟩
  rw [h2, List.drop_eq_getElem_cons hl, scan_cons_some hf, Option.map_map]
  congr 1
  funext k
  show k + 1 + (p - at_) = k + (p + 1 - at_)
  omega
theorem arI_le {ar : List Int} (h : SigP ar) {x : Int} {a : Nat} (hx : arI ar x = some a) : a ≤ 3 := by
  unfold arI at hx
  by_cases h0 : x < 0
  · rw [if_pos h0] at hx; cases hx; omega
  · rw [if_neg h0] at hx
    by_cases h1 : x < ar.length
    · rw [if_pos h1] at hx; cases hx
      have hl : x.toNat < ar.length := by omega
      have := h.2.2 ar[x.toNat] (List.getElem_mem hl)
      rw [List.getD_eq_getElem?_getD, List.getElem?_eq_getElem hl]
      simp only [Option.getD_some]
      omega
    · rw [if_neg h1] at hx; cases hx

/-- The least of some numbers. -/
def minL (t : List Int) : Int := match t with
  | [] => 0
  | x :: xs => xs.foldl (fun a b => if b < a then b else a) x
theorem minL_snoc {t : List Int} {y : Int} (h : t ≠ []) : minL (t ++ [y]) = if y < minL t then y else minL t := by
  cases t with
  | nil => exact absurd rfl h
  | cons x xs =>
    show List.foldl _ x (xs ++ [y]) = _
    rw [List.foldl_append]; rfl
theorem minL_ge {t : List Int} {m : Int} (h : t ≠ []) : m ≤ minL t ↔ ∀ x ∈ t, m ≤ x := by
  cases t with
  | nil => exact absurd rfl h
  | cons x xs =>
    have : ∀ (l : List Int) (a : Int), m ≤ l.foldl (fun a b => if b < a then b else a) a ↔ m ≤ a ∧ ∀ x ∈ l, m ≤ x := by
      intro l
      induction l with
      | nil => intro a; simp
      | cons b l ih =>
        intro a
        rw [List.foldl_cons, ih]
        by_cases hb : b < a
        · rw [if_pos hb]; simp only [List.mem_cons, forall_eq_or_imp]; constructor
          · rintro ⟨h1, h2⟩; exact ⟨by omega, h1, h2⟩
          · rintro ⟨h1, h2, h3⟩; exact ⟨h2, h3⟩
        · rw [if_neg hb]; simp only [List.mem_cons, forall_eq_or_imp]; constructor
          · rintro ⟨h1, h2⟩; exact ⟨h1, by omega, h2⟩
          · rintro ⟨h1, h2, h3⟩; exact ⟨h1, h3⟩
    show m ≤ xs.foldl _ x ↔ _
    rw [this]; simp

end Go.Proofs.Ytempekmenkeigaa

/-! Plain: right terms as trees. -/
namespace Go.Proofs.Ytempekmenkeigaa

inductive Tm where
  | node (x : Int) (as : List Tm)
mutual
def Tm.flat : Tm → List Int
  | .node x as => x :: flatL as
def flatL : List Tm → List Int
  | [] => []
  | a :: as => a.flat ++ flatL as
end
mutual
def Tm.Ok (ar : List Int) : Tm → Prop
  | .node x as => arI ar x = some as.length ∧ OkL ar as
def OkL (ar : List Int) : List Tm → Prop
  | [] => True
  | a :: as => a.Ok ar ∧ OkL ar as
end
theorem flatL_nil : flatL [] = [] := by simp only [flatL]
theorem flatL_cons (a : Tm) (as : List Tm) : flatL (a :: as) = a.flat ++ flatL as := by simp only [flatL]
theorem flat_node (x : Int) (as : List Tm) : (Tm.node x as).flat = x :: flatL as := by simp only [Tm.flat]
theorem Ok_node {ar : List Int} {x : Int} {as : List Tm} : (Tm.node x as).Ok ar ↔ arI ar x = some as.length ∧ OkL ar as := by simp only [Tm.Ok]
theorem OkL_cons {ar : List Int} {a : Tm} {as : List Tm} : OkL ar (a :: as) ↔ a.Ok ar ∧ OkL ar as := by simp only [OkL]
theorem OkL_iff {ar : List Int} : ∀ {as : List Tm}, OkL ar as ↔ ∀ a ∈ as, a.Ok ar
  | [] => by simp [OkL]
  | a :: as => by rw [OkL_cons, OkL_iff]; simp
theorem flatL_append : ∀ (as bs : List Tm), flatL (as ++ bs) = flatL as ++ flatL bs
  | [], bs => by simp [flatL_nil]
  | a :: as, bs => by rw [List.cons_append, flatL_cons, flatL_cons, flatL_append, List.append_assoc]
theorem flat_pos (u : Tm) : 1 ≤ u.flat.length := by cases u; rw [flat_node]; simp

mutual
theorem scan_flat {ar : List Int} : ∀ (u : Tm), u.Ok ar → ∀ (rest : List Int) (nd : Nat), scan (arI ar) (u.flat ++ rest) (nd + 1) = (scan (arI ar) rest nd).map (· + u.flat.length)
  | .node x as, h, rest, nd => by
    obtain ⟨h1, h2⟩ := Ok_node.1 h
    rw [flat_node, List.cons_append, scan_cons_some h1, scan_flatL as h2, Option.map_map]
    congr 1
theorem scan_flatL {ar : List Int} : ∀ (as : List Tm), OkL ar as → ∀ (rest : List Int) (nd : Nat), scan (arI ar) (flatL as ++ rest) (nd + as.length) = (scan (arI ar) rest nd).map (· + (flatL as).length)
  | [], _, rest, nd => by simp [flatL_nil]
  | a :: as, h, rest, nd => by
    obtain ⟨h1, h2⟩ := OkL_cons.1 h
    rw [flatL_cons, List.append_assoc, List.length_cons, ← Nat.add_assoc, scan_flat a h1, scan_flatL as h2, Option.map_map]
    congr 1
    funext k
    simp only [Function.comp, List.length_append]; omega
end
theorem parse {ar : List Int} : ∀ {t : List Int} {nd k : Nat}, scan (arI ar) t nd = some k → ∃ us, OkL ar us ∧ us.length = nd ∧ t.take k = flatL us ∧ k = (flatL us).length
  | t, 0, k, h => by rw [scan_zero] at h; cases h; exact ⟨[], by simp [OkL], rfl, by simp [flatL_nil], by simp [flatL_nil]⟩
  | [], nd + 1, k, h => by cases h
  | x :: xs, nd + 1, k, h => by
    rcases hf : arI ar x with _ | a
    · rw [scan_cons_none hf] at h; cases h
    · rw [scan_cons_some hf] at h
      obtain ⟨k', hk', rfl⟩ := Option.map_eq_some_iff.1 h
      obtain ⟨us, h1, h2, h3, h4⟩ := parse hk'
      have h1' := OkL_iff.1 h1
      refine ⟨.node x (us.take a) :: us.drop a, ?_, ?_, ?_, ?_⟩
      · rw [OkL_cons]
        refine ⟨Ok_node.2 ⟨by rw [hf, List.length_take, Nat.min_eq_left (by omega)], OkL_iff.2 fun b hb => h1' b (List.mem_of_mem_take hb)⟩, OkL_iff.2 fun b hb => h1' b (List.mem_of_mem_drop hb)⟩
      · rw [List.length_cons, List.length_drop]; omega
      · rw [flatL_cons, flat_node, List.cons_append, ← flatL_append, List.take_append_drop, List.take_succ_cons, h3]
      · rw [flatL_cons, flat_node, List.cons_append, ← flatL_append, List.take_append_drop, List.length_cons, h4]
theorem tree_of {ar t : List Int} (h : TermP ar t) : ∃ u : Tm, u.Ok ar ∧ u.flat = t := by
  obtain ⟨us, h1, h2, h3, _⟩ := parse h.2.2.2
  rw [List.take_length] at h3
  match us, h2 with
  | [u], _ => exact ⟨u, (OkL_cons.1 h1).1, by rw [h3, flatL_cons, flatL_nil, List.append_nil]⟩
/-- Where a tree ends. -/
theorem endI_flat {ar t rest : List Int} {p : Nat} {u : Tm} (hu : u.Ok ar) (h : t.drop p = u.flat ++ rest) : endI ar t p = (p + u.flat.length : Nat) := by
  unfold endI endF
  rw [h, show (1 : Nat) = 0 + 1 from rfl, scan_flat u hu, scan_zero]
  simp
theorem arI_lt {ar : List Int} {x : Int} {a : Nat} (h : arI ar x = some a) : x < ar.length := by
  unfold arI at h
  by_cases h0 : x < 0
  · omega
  · rw [if_neg h0] at h
    by_cases h1 : x < ar.length
    · exact h1
    · rw [if_neg h1] at h; cases h
mutual
theorem flat_lt {ar : List Int} : ∀ (u : Tm), u.Ok ar → ∀ x ∈ u.flat, x < ar.length
  | .node x as, h, y, hy => by
    obtain ⟨h1, h2⟩ := Ok_node.1 h
    rw [flat_node] at hy
    rcases List.mem_cons.1 hy with rfl | hy
    · exact arI_lt h1
    · exact flatL_lt as h2 y hy
theorem flatL_lt {ar : List Int} : ∀ (as : List Tm), OkL ar as → ∀ x ∈ flatL as, x < ar.length
  | [], _, y, hy => by rw [flatL_nil] at hy; cases hy
  | a :: as, h, y, hy => by
    obtain ⟨h1, h2⟩ := OkL_cons.1 h
    rw [flatL_cons] at hy
    rcases List.mem_append.1 hy with hy | hy
    · exact flat_lt a h1 y hy
    · exact flatL_lt as h2 y hy
end
/-- Where the arguments of a tree at a place begin. -/
def starts : Nat → List Tm → List Int
  | _, [] => []
  | p, a :: as => (p : Int) :: starts (p + a.flat.length) as
theorem starts_len : ∀ (p : Nat) (as : List Tm), (starts p as).length = as.length
  | _, [] => rfl
  | p, a :: as => by rw [starts, List.length_cons, starts_len, List.length_cons]
theorem starts_append : ∀ (p : Nat) (as bs : List Tm), starts p (as ++ bs) = starts p as ++ starts (p + (flatL as).length) bs
  | p, [], bs => by simp [starts, flatL_nil]
  | p, a :: as, bs => by rw [List.cons_append, starts, starts, starts_append, flatL_cons, List.length_append, Nat.add_assoc]; rfl
theorem starts_get {p k : Nat} {as : List Tm} (h : k < as.length) : (starts p as)[k]? = some ((p + (flatL (as.take k)).length : Nat) : Int) := by
  obtain ⟨a, ha⟩ : ∃ a, as.drop k = a :: as.drop (k + 1) := ⟨as[k], List.drop_eq_getElem_cons h⟩
  have e : as = as.take k ++ (a :: as.drop (k + 1)) := by rw [← ha, List.take_append_drop]
  conv => lhs; rw [e]
  rw [starts_append, List.getElem?_append_right (by rw [starts_len, List.length_take]; omega), starts_len, List.length_take, Nat.min_eq_left (by omega), Nat.sub_self, starts]
  rfl
/-- Its k-th argument stands where it begins. -/
theorem drop_arg {t rest : List Int} {p k : Nat} {x : Int} {as : List Tm} {a : Tm} (h : t.drop p = (Tm.node x as).flat ++ rest) (hk : as[k]? = some a) :
    t.drop (p + 1 + (flatL (as.take k)).length) = a.flat ++ (flatL (as.drop (k + 1)) ++ rest) := by
  obtain ⟨hl, rfl⟩ := List.getElem?_eq_some_iff.1 hk
  have e : flatL as = flatL (as.take k) ++ (as[k].flat ++ flatL (as.drop (k + 1))) := by
    rw [← flatL_cons, ← List.drop_eq_getElem_cons hl, ← flatL_append, List.take_append_drop]
  rw [← List.drop_drop, ← List.drop_drop, h, flat_node, List.cons_append, List.drop_succ_cons, List.drop_zero, e, List.append_assoc, List.append_assoc, List.drop_left]
theorem flatL_len_take (as : List Tm) (k : Nat) : (flatL (as.take k)).length ≤ (flatL as).length := by
  have e : flatL as = flatL (as.take k) ++ flatL (as.drop k) := by rw [← flatL_append, List.take_append_drop]
  rw [e, List.length_append]; omega

mutual
theorem flat_inj {ar : List Int} : ∀ (u v : Tm), u.Ok ar → v.Ok ar → ∀ r r', u.flat ++ r = v.flat ++ r' → u = v ∧ r = r'
  | .node x as, .node y bs, hu, hv, r, r', e => by
    obtain ⟨h1, h2⟩ := Ok_node.1 hu
    obtain ⟨h3, h4⟩ := Ok_node.1 hv
    rw [flat_node, flat_node, List.cons_append, List.cons_append] at e
    injection e with e1 e2
    subst e1
    rw [h1] at h3
    injection h3 with h3
    obtain ⟨h5, h6⟩ := flatL_inj as bs h2 h4 h3 r r' e2
    exact ⟨by rw [h5], h6⟩
theorem flatL_inj {ar : List Int} : ∀ (as bs : List Tm), OkL ar as → OkL ar bs → as.length = bs.length → ∀ r r', flatL as ++ r = flatL bs ++ r' → as = bs ∧ r = r'
  | [], [], _, _, _, r, r', e => by rw [flatL_nil] at e; exact ⟨rfl, by simpa using e⟩
  | [], b :: bs, _, _, hl, _, _, _ => by simp at hl
  | a :: as, [], _, _, hl, _, _, _ => by simp at hl
  | a :: as, b :: bs, ha, hb, hl, r, r', e => by
    obtain ⟨h1, h2⟩ := OkL_cons.1 ha
    obtain ⟨h3, h4⟩ := OkL_cons.1 hb
    rw [flatL_cons, flatL_cons, List.append_assoc, List.append_assoc] at e
    obtain ⟨h5, h6⟩ := flat_inj a b h1 h3 _ _ e
    obtain ⟨h7, h8⟩ := flatL_inj as bs h2 h4 (by simpa using hl) _ _ h6
    exact ⟨by rw [h5, h7], h8⟩
end
theorem flat_inj' {ar : List Int} {u v : Tm} (hu : u.Ok ar) (hv : v.Ok ar) (e : u.flat = v.flat) : u = v := (flat_inj u v hu hv [] [] (by rw [e])).1
theorem mem_flatL_len {a : Tm} : ∀ {as : List Tm}, a ∈ as → a.flat.length ≤ (flatL as).length
  | b :: as, h => by
    rw [flatL_cons, List.length_append]
    rcases List.mem_cons.1 h with rfl | h
    · omega
    · have := mem_flatL_len h; omega
/-- The tree of a list. -/
noncomputable def tmOf (ar t : List Int) : Tm := @Classical.epsilon Tm ⟨.node 0 []⟩ fun u => u.Ok ar ∧ u.flat = t
theorem tmOf_flat {ar : List Int} {u : Tm} (hu : u.Ok ar) : tmOf ar u.flat = u := by
  have h := Classical.epsilon_spec (p := fun v : Tm => v.Ok ar ∧ v.flat = u.flat) ⟨u, hu, rfl⟩
  exact flat_inj' h.1 hu h.2
theorem tmOf_ok {ar t : List Int} (h : TermP ar t) : (tmOf ar t).Ok ar ∧ (tmOf ar t).flat = t := by
  obtain ⟨u, h1, rfl⟩ := tree_of h
  rw [tmOf_flat h1]; exact ⟨h1, rfl⟩

end Go.Proofs.Ytempekmenkeigaa

/-! Plain: systems of rules. -/
namespace Go.Proofs.Ytempekmenkeigaa
set_option linter.unusedVariables false

structure Ru where
  l : List Int
  r : List Int
structure Sy where
  ar : List Int
  rs : List Ru
def szRu (left : Int) (r : Ru) : Int := szI (szI left r.l.length) r.r.length
def szRsF (left : Int) (rs : List Ru) : Int := rs.foldl szRu left
def szRs (left : Int) (rs : List Ru) : Int := szRsF (szI left rs.length) rs
def szSy (left : Int) (s : Sy) : Int := szRs (szI left s.ar.length) s.rs
theorem szRu_bd (left : Int) (r : Ru) (h : -1 ≤ left ∧ left ≤ 1048576) : -1 ≤ szRu left r ∧ szRu left r ≤ 1048576 := szI_bd _ _ (szI_bd _ _ h)
theorem szRu_le (left : Int) (r : Ru) (h : -1 ≤ left) : szRu left r ≤ left := Int.le_trans (szI_le _ _ (szI_lo _ _)) (szI_le _ _ h)
theorem szRu_m1 (r : Ru) : szRu (-1) r = -1 := by unfold szRu; rw [szI_m1 (left := -1) (by omega), szI_m1 (by omega)]
theorem szRsF_m1 (rs : List Ru) : szRsF (-1) rs = -1 := by
  induction rs with
  | nil => rfl
  | cons r rs ih => show szRsF (szRu (-1) r) rs = -1; rw [szRu_m1]; exact ih
theorem szRsF_bd (left : Int) (rs : List Ru) (h : -1 ≤ left ∧ left ≤ 1048576) : -1 ≤ szRsF left rs ∧ szRsF left rs ≤ left := by
  induction rs generalizing left with
  | nil => exact ⟨h.1, Int.le_refl _⟩
  | cons p ps ih =>
    have h1 := szRu_bd left p h
    have h2 := szRu_le left p h.1
    have h3 := ih (szRu left p) h1
    exact ⟨h3.1, Int.le_trans h3.2 h2⟩
theorem szRs_bd (left : Int) (rs : List Ru) (h : -1 ≤ left ∧ left ≤ 1048576) : -1 ≤ szRs left rs ∧ szRs left rs ≤ 1048576 := by
  have h1 := szI_bd left rs.length h
  have h2 := szRsF_bd _ rs h1
  exact ⟨h2.1, by show szRsF _ _ ≤ _; omega⟩
theorem szSy_bd (left : Int) (s : Sy) (h : -1 ≤ left ∧ left ≤ 1048576) : -1 ≤ szSy left s ∧ szSy left s ≤ 1048576 := szRs_bd _ _ (szI_bd _ _ h)
theorem szRsF_snoc (left : Int) (rs : List Ru) (r : Ru) : szRsF left (rs ++ [r]) = szRu (szRsF left rs) r := by simp [szRsF, List.foldl_append]
theorem szRsF_neg {left : Int} {rs : List Ru} {k : Nat} (h : szRsF left (rs.take k) = -1) : szRsF left rs = -1 := by
  have e : szRsF left rs = szRsF (szRsF left (rs.take k)) (rs.drop k) := by
    unfold szRsF; rw [← List.foldl_append, List.take_append_drop]
  rw [e, h]; exact szRsF_m1 _
theorem szRu_ok {left : Int} {r : Ru} (h0 : -1 ≤ left) (h : 0 ≤ szRu left r) : (r.l.length : Int) ≤ left ∧ (r.r.length : Int) ≤ left := by
  have h1 := szI_nonneg (left := szI left r.l.length) (n := r.r.length) h
  have h2 := szI_nonneg (left := left) (n := r.l.length) (by omega)
  omega
theorem szRsF_ok {left : Int} {rs : List Ru} (hl : -1 ≤ left ∧ left ≤ 1048576) (h : 0 ≤ szRsF left rs) : ∀ r ∈ rs, (r.l.length : Int) ≤ left ∧ (r.r.length : Int) ≤ left := by
  induction rs generalizing left with
  | nil => simp
  | cons p ps ih =>
    have h1 := szRu_bd left p hl
    have h2 := szRsF_bd (szRu left p) ps h1
    have h0 : 0 ≤ szRsF (szRu left p) ps := h
    have h3 := szRu_ok (left := left) (r := p) hl.1 (by omega)
    have h4 := szRu_le left p hl.1
    intro q hq
    rcases List.mem_cons.1 hq with rfl | hq
    · exact h3
    · have := ih h1 h0 q hq; omega
theorem szSy_ok {left : Int} {s : Sy} (hl : -1 ≤ left ∧ left ≤ 1048576) (h : 0 ≤ szSy left s) : (s.ar.length : Int) ≤ left ∧ (s.rs.length : Int) ≤ left ∧ ∀ r ∈ s.rs, (r.l.length : Int) ≤ left ∧ (r.r.length : Int) ≤ left := by
  have h0 : 0 ≤ szRsF (szI (szI left s.ar.length) s.rs.length) s.rs := h
  have h1 := szI_bd left s.ar.length hl
  have h2 := szI_bd _ s.rs.length h1
  have h3 := szRsF_bd _ s.rs h2
  have h4 := szRsF_ok h2 h0
  have h5 := szI_nonneg (left := szI left s.ar.length) (n := s.rs.length) (by omega)
  have h6 := szI_nonneg (left := left) (n := s.ar.length) (by omega)
  exact ⟨by omega, by omega, fun r hr => by have := h4 r hr; omega⟩

/-- A right rule. -/
def RuleP (ar : List Int) (r : Ru) : Prop := TermP ar r.l ∧ TermP ar r.r ∧ (∀ x, r.l[0]? = some x → 0 ≤ x) ∧ ∀ x ∈ r.r, x < 0 → x ∈ r.l
noncomputable def ruleOk (ar : List Int) (r : Ru) : Bool := @decide (RuleP ar r) (Classical.propDecidable _)
theorem ruleOk_iff {ar : List Int} {r : Ru} : ruleOk ar r = true ↔ RuleP ar r := by simp [ruleOk]
theorem ruleOk_f {ar : List Int} {r : Ru} (h : ¬ RuleP ar r) : ruleOk ar r = false := by simp only [ruleOk, decide_eq_false_iff_not]; exact h
def SysP (s : Sy) : Prop := SigP s.ar ∧ s.rs.length ≤ 12 ∧ ∀ (j : Nat) (r : Ru), s.rs[j]? = some r → RuleP s.ar r
noncomputable def sysOk (s : Sy) : Bool := @decide (SysP s) (Classical.propDecidable _)
theorem sysOk_iff {s : Sy} : sysOk s = true ↔ SysP s := by simp [sysOk]
theorem sysOk_f {s : Sy} (h : ¬ SysP s) : sysOk s = false := by simp only [sysOk, decide_eq_false_iff_not]; exact h
theorem sysOk_sig {s : Sy} (h : sigOk s.ar = false) : sysOk s = false := sysOk_f fun a => by rw [sigOk_iff.2 a.1] at h; cases h
theorem sysOk_len {s : Sy} (h : ¬ s.rs.length ≤ 12) : sysOk s = false := sysOk_f fun a => h a.2.1
theorem sysOk_at {s : Sy} {j : Nat} {r : Ru} (hr : s.rs[j]? = some r) (h : ruleOk s.ar r = false) : sysOk s = false := sysOk_f fun a => by rw [ruleOk_iff.2 (a.2.2 j r hr)] at h; cases h
theorem sysOk_all {s : Sy} (h1 : sigOk s.ar = true) (h2 : s.rs.length ≤ 12) (h : ∀ (j : Nat) (r : Ru), j < s.rs.length → s.rs[j]? = some r → ruleOk s.ar r = true) : sysOk s = true :=
  sysOk_iff.2 ⟨sigOk_iff.1 h1, h2, fun j r hr => ruleOk_iff.1 (h j r (List.getElem?_eq_some_iff.1 hr).1 hr)⟩

end Go.Proofs.Ytempekmenkeigaa

/-! Plain: pairs of rules of a system. -/
namespace Go.Proofs.Ytempekmenkeigaa

/-- A rule for it. -/
def Dfd (s : Sy) (f : Int) : Prop := ∃ r ∈ s.rs, r.l[0]? = some f
noncomputable def dfd (s : Sy) (f : Int) : Bool := @decide (Dfd s f) (Classical.propDecidable _)
theorem dfd_t {s : Sy} {f : Int} {j : Nat} {r : Ru} (hr : s.rs[j]? = some r) (h : r.l[0]? = some f) : dfd s f = true := by
  simp only [dfd, decide_eq_true_eq]; exact ⟨r, List.mem_of_getElem? hr, h⟩
theorem dfd_f {s : Sy} {f : Int} (h : ∀ (j : Nat) (r : Ru), j < s.rs.length → s.rs[j]? = some r → ¬ r.l[0]? = some f) : dfd s f = false := by
  simp only [dfd, decide_eq_false_iff_not]
  rintro ⟨r, hr, h2⟩
  obtain ⟨j, hj, rfl⟩ := List.mem_iff_getElem.1 hr
  exact h j _ hj (List.getElem?_eq_getElem hj) h2
theorem dfd_iff {s : Sy} {f : Int} : dfd s f = true ↔ Dfd s f := by simp [dfd]
mutual
theorem sub_ex {ar : List Int} : ∀ (u : Tm), u.Ok ar → ∀ at_, at_ < u.flat.length → ∃ (v : Tm) (rest : List Int), v.Ok ar ∧ u.flat.drop at_ = v.flat ++ rest
  | .node x us, hu, 0, _ => ⟨.node x us, [], hu, by simp⟩
  | .node x us, hu, n + 1, h => by
    rw [flat_node, List.length_cons] at h
    obtain ⟨v, rest, h1, h2⟩ := subL_ex us (Ok_node.1 hu).2 n (by omega)
    exact ⟨v, rest, h1, by rw [flat_node, List.drop_succ_cons]; exact h2⟩
theorem subL_ex {ar : List Int} : ∀ (us : List Tm), OkL ar us → ∀ at_, at_ < (flatL us).length → ∃ (v : Tm) (rest : List Int), v.Ok ar ∧ (flatL us).drop at_ = v.flat ++ rest
  | [], _, at_, h => by rw [show flatL [] = [] by rfl] at h; simp at h
  | a :: us, hu, at_, h => by
    obtain ⟨k1, k2⟩ := OkL_cons.1 hu
    rw [flatL_cons, List.length_append] at h
    rw [flatL_cons]
    by_cases h1 : at_ < a.flat.length
    · obtain ⟨v, rest, h2, h3⟩ := sub_ex a k1 at_ h1
      exact ⟨v, rest ++ flatL us, h2, by rw [List.drop_append_of_le_length (by omega), h3, List.append_assoc]⟩
    · obtain ⟨v, rest, h2, h3⟩ := subL_ex us k2 (at_ - a.flat.length) (by omega)
      exact ⟨v, rest, h2, by rw [List.drop_append, List.drop_of_length_le (by omega), List.nil_append]; exact h3⟩
end
/-- The subterm at a place. -/
noncomputable def subT (ar t : List Int) (p : Nat) : Tm := @Classical.epsilon Tm ⟨.node 0 []⟩ fun v => v.Ok ar ∧ ∃ rest, t.drop p = v.flat ++ rest
theorem subT_ok {ar t : List Int} {p : Nat} (h : TermP ar t) (hp : p < t.length) : (subT ar t p).Ok ar ∧ ∃ rest, t.drop p = (subT ar t p).flat ++ rest := by
  obtain ⟨k1, k2⟩ := tmOf_ok h
  obtain ⟨v, rest, h1, h2⟩ := sub_ex (tmOf ar t) k1 p (by rw [k2]; exact hp)
  rw [k2] at h2
  exact Classical.epsilon_spec (p := fun v : Tm => v.Ok ar ∧ ∃ rest, t.drop p = v.flat ++ rest) ⟨v, h1, rest, h2⟩
/-- It is a part of a term. -/
def Has (ar t u : List Int) : Prop := ∃ p, 1 ≤ p ∧ p < t.length ∧ (subT ar t p).flat = u
noncomputable def has (ar t u : List Int) : Bool := @decide (Has ar t u) (Classical.propDecidable _)
theorem has_t {ar t u : List Int} {p : Nat} (h1 : 1 ≤ p) (h2 : p < t.length) (h : (subT ar t p).flat = u) : has ar t u = true := by
  simp only [has, decide_eq_true_eq]; exact ⟨p, h1, h2, h⟩
theorem has_f {ar t u : List Int} (h : ∀ p, 1 ≤ p → p < t.length → ¬ (subT ar t p).flat = u) : has ar t u = false := by
  simp only [has, decide_eq_false_iff_not]; rintro ⟨p, h1, h2, h3⟩; exact h p h1 h2 h3
/-- The pair of a rule at a place. -/
noncomputable def depOf (s : Sy) (r : Ru) (rule p : Nat) (x : Int) : Option DepP :=
  if x < 0 then none else if dfd s x = false then none else if has s.ar r.l (subT s.ar r.r p).flat = true then none else some ⟨r.l, (subT s.ar r.r p).flat, rule, p⟩
/-- What is asked of a pair's numbers. -/
def DepIn (s : Sy) (p : DepP) : Prop := ∃ (k a : Nat) (r : Ru) (x : Int), p.rule = k ∧ p.at_ = a ∧ s.rs[k]? = some r ∧ r.r[a]? = some x
def DepGood (s : Sy) (p : DepP) : Prop := ∃ (k a : Nat) (r : Ru) (x : Int), (p.rule = k ∧ p.at_ = a ∧ s.rs[k]? = some r ∧ r.r[a]? = some x) ∧ ∃ q, depOf s r k a x = some q ∧ q.same p = true
noncomputable def depG (s : Sy) (p : DepP) : Bool := @decide (DepGood s p) (Classical.propDecidable _)
theorem depG_f {s : Sy} {p : DepP} (h : ¬ DepGood s p) : depG s p = false := by simp only [depG, decide_eq_false_iff_not]; exact h
theorem depG_t {s : Sy} {p : DepP} (h : DepGood s p) : depG s p = true := by simp only [depG, decide_eq_true_eq]; exact h
noncomputable def depOk (s : Sy) (p : DepP) : Bool := sysOk s && depG s p
theorem depOk_sys {s : Sy} {p : DepP} (h : sysOk s = false) : depOk s p = false := by unfold depOk; rw [h]; rfl
theorem depOk_out {s : Sy} {p : DepP} (h : ¬ DepIn s p) : depOk s p = false := by
  unfold depOk
  rw [depG_f, Bool.and_false]
  rintro ⟨k, a, r, x, h1, _⟩
  exact h ⟨k, a, r, x, h1⟩
theorem depGood_at {s : Sy} {p : DepP} {k a : Nat} {r : Ru} {x : Int} (h1 : p.rule = k) (h2 : p.at_ = a) (h3 : s.rs[k]? = some r) (h4 : r.r[a]? = some x) (h : DepGood s p) : ∃ q, depOf s r k a x = some q ∧ q.same p = true := by
  obtain ⟨k', a', r', x', ⟨e1, e2, e3, e4⟩, q, e5, e6⟩ := h
  have hk : k' = k := by omega
  have ha : a' = a := by omega
  subst hk; subst ha
  rw [h3] at e3; cases e3
  rw [h4] at e4; cases e4
  exact ⟨q, e5, e6⟩
theorem depOk_none {s : Sy} {p : DepP} {k a : Nat} {r : Ru} {x : Int} (h1 : p.rule = k) (h2 : p.at_ = a) (h3 : s.rs[k]? = some r) (h4 : r.r[a]? = some x) (h : depOf s r k a x = none) : depOk s p = false := by
  unfold depOk
  rw [depG_f, Bool.and_false]
  intro hg
  obtain ⟨q, e5, _⟩ := depGood_at h1 h2 h3 h4 hg
  rw [h] at e5; cases e5
theorem depOk_some {s : Sy} {p q : DepP} {k a : Nat} {r : Ru} {x : Int} (hs : sysOk s = true) (h1 : p.rule = k) (h2 : p.at_ = a) (h3 : s.rs[k]? = some r) (h4 : r.r[a]? = some x) (h : depOf s r k a x = some q) : depOk s p = q.same p := by
  unfold depOk
  rw [hs, Bool.true_and]
  cases hq : q.same p with
  | true => exact depG_t ⟨k, a, r, x, ⟨h1, h2, h3, h4⟩, q, h, hq⟩
  | false =>
    refine depG_f fun hg => ?_
    obtain ⟨q', e5, e6⟩ := depGood_at h1 h2 h3 h4 hg
    rw [h] at e5; cases e5
    rw [hq] at e6; cases e6
theorem same_comm (p q : DepP) : p.same q = q.same p := by
  have h : ∀ p q : DepP, p.same q = true → q.same p = true := by
    intro p q h
    simp only [DepP.same, Bool.and_eq_true, beq_iff_eq] at h ⊢
    exact ⟨⟨⟨h.1.1.1.symm, h.1.1.2.symm⟩, h.1.2.symm⟩, h.2.symm⟩
  exact Bool.eq_iff_iff.2 ⟨h p q, h q p⟩

end Go.Proofs.Ytempekmenkeigaa

/-! Plain: ranks (each number from 0 on, once) and weights. -/
namespace Go.Proofs.Ytempekmenkeigaa

/-- A right rank. -/
def RankP (ar rk : List Int) : Prop := SigP ar ∧ rk.length = ar.length ∧ ∀ i : Nat, i < rk.length → (i : Int) ∈ rk
noncomputable def rankOk (ar rk : List Int) : Bool := @decide (RankP ar rk) (Classical.propDecidable _)
theorem rankOk_iff {ar rk : List Int} : rankOk ar rk = true ↔ RankP ar rk := by simp [rankOk]
theorem rankOk_f {ar rk : List Int} (h : ¬ RankP ar rk) : rankOk ar rk = false := by simp only [rankOk, decide_eq_false_iff_not]; exact h
theorem rankOk_sig {ar rk : List Int} (h : sigOk ar = false) : rankOk ar rk = false := rankOk_f fun a => by rw [sigOk_iff.2 a.1] at h; cases h
theorem rankOk_len {ar rk : List Int} (h : ¬ rk.length = ar.length) : rankOk ar rk = false := rankOk_f fun a => h a.2.1

/-- 0 .. n-1 -/
def upTo (n : Nat) : List Int := (List.range n).map fun (i : Nat) => (i : Int)
theorem upTo_len (n : Nat) : (upTo n).length = n := by simp [upTo]
theorem mem_upTo {n : Nat} {x : Int} : x ∈ upTo n ↔ 0 ≤ x ∧ x < n := by
  simp only [upTo, List.mem_map, List.mem_range]
  constructor
  · rintro ⟨i, hi, rfl⟩; omega
  · rintro ⟨h1, h2⟩; exact ⟨x.toNat, by omega, by omega⟩
theorem upTo_nodup (n : Nat) : (upTo n).Nodup := by
  unfold upTo List.Nodup
  rw [List.pairwise_map]
  refine List.Pairwise.imp ?_ (List.nodup_range (n := n))
  intro a b h e; exact h (by omega)

theorem rank_range {rk : List Int} (h : ∀ i : Nat, i < rk.length → (i : Int) ∈ rk) : ∀ x ∈ rk, 0 ≤ x ∧ x < rk.length := by
  intro x hx
  apply Classical.byContradiction
  intro hn
  have hsub : upTo rk.length ⊆ rk.erase x := by
    intro y hy
    have hy' := mem_upTo.1 hy
    have hm : y ∈ rk := by have := h y.toNat (by omega); rwa [show ((y.toNat : Nat) : Int) = y by omega] at this
    exact (List.mem_erase_of_ne (by rintro rfl; exact hn hy')).2 hm
  have := List.Nodup.length_le_of_subset (upTo_nodup _) hsub
  rw [upTo_len, List.length_erase_of_mem hx] at this
  have : 0 < rk.length := List.length_pos_of_mem hx
  omega
theorem rank_distinct {rk : List Int} (h : ∀ i : Nat, i < rk.length → (i : Int) ∈ rk) {i j : Nat} {x : Int} (hij : i < j) (hi : rk[i]? = some x) (hj : rk[j]? = some x) : False := by
  obtain ⟨hjl, ej⟩ := List.getElem?_eq_some_iff.1 hj
  obtain ⟨hil, ei⟩ := List.getElem?_eq_some_iff.1 hi
  have hsub : upTo rk.length ⊆ rk.eraseIdx j := by
    intro y hy
    have hy' := mem_upTo.1 hy
    have hm : y ∈ rk := by have := h y.toNat (by omega); rwa [show ((y.toNat : Nat) : Int) = y by omega] at this
    rw [List.mem_eraseIdx_iff_getElem]
    obtain ⟨k, hk, ek⟩ := List.mem_iff_getElem.1 hm
    by_cases hkj : k = j
    · subst hkj
      exact ⟨i, ⟨hil, by omega, by rw [ei, ← ek, ej]⟩⟩
    · exact ⟨k, ⟨hk, hkj, ek⟩⟩
  have := List.Nodup.length_le_of_subset (upTo_nodup _) hsub
  rw [upTo_len, List.length_eraseIdx] at this
  rw [if_pos hjl] at this
  omega
theorem rank_all {rk : List Int} (h1 : ∀ x ∈ rk, 0 ≤ x ∧ x < rk.length) (h2 : ∀ (i j : Nat) (x : Int), i < j → rk[i]? = some x → rk[j]? = some x → False) : ∀ i : Nat, i < rk.length → (i : Int) ∈ rk := by
  intro i hi
  apply Classical.byContradiction
  intro hn
  have hnd : rk.Nodup := by
    rw [List.Nodup, List.pairwise_iff_getElem]
    intro a b ha hb hab e
    exact h2 a b rk[a] hab (List.getElem?_eq_getElem ha) (by rw [List.getElem?_eq_getElem hb, e])
  have hsub : rk ⊆ (upTo rk.length).erase i := by
    intro x hx
    refine (List.mem_erase_of_ne ?_).2 (mem_upTo.2 (h1 x hx))
    rintro rfl; exact hn hx
  have := List.Nodup.length_le_of_subset hnd hsub
  rw [List.length_erase_of_mem (mem_upTo.2 ⟨by omega, by omega⟩), upTo_len] at this
  omega

structure Wt where
  var : Int
  sym : List Int
  rank : List Int
/-- One symbol's weight is right. -/
def WtAt (var : Int) (n : Nat) (s a r : Int) : Prop := (0 ≤ s ∧ s ≤ 20) ∧ (a = 0 → var ≤ s) ∧ (a = 1 → s = 0 → r = n - 1)
def WtP (ar : List Int) (wt : Wt) : Prop := RankP ar wt.rank ∧ wt.sym.length = ar.length ∧ (1 ≤ wt.var ∧ wt.var ≤ 20) ∧
  ∀ (j : Nat) (s a r : Int), wt.sym[j]? = some s → ar[j]? = some a → wt.rank[j]? = some r → WtAt wt.var wt.rank.length s a r
noncomputable def wtOk (ar : List Int) (wt : Wt) : Bool := @decide (WtP ar wt) (Classical.propDecidable _)
theorem wtOk_iff {ar : List Int} {wt : Wt} : wtOk ar wt = true ↔ WtP ar wt := by simp [wtOk]
theorem wtOk_f {ar : List Int} {wt : Wt} (h : ¬ WtP ar wt) : wtOk ar wt = false := by simp only [wtOk, decide_eq_false_iff_not]; exact h
theorem wtOk_rank {ar : List Int} {wt : Wt} (h : rankOk ar wt.rank = false) : wtOk ar wt = false := wtOk_f fun a => by rw [rankOk_iff.2 a.1] at h; cases h
theorem wtOk_len {ar : List Int} {wt : Wt} (h : ¬ wt.sym.length = ar.length) : wtOk ar wt = false := wtOk_f fun a => h a.2.1
theorem wtOk_var {ar : List Int} {wt : Wt} (h : ¬ (1 ≤ wt.var ∧ wt.var ≤ 20)) : wtOk ar wt = false := wtOk_f fun a => h a.2.2.1
theorem wtOk_at {ar : List Int} {wt : Wt} {j : Nat} {s a r : Int} (h1 : wt.sym[j]? = some s) (h2 : ar[j]? = some a) (h3 : wt.rank[j]? = some r) (h : ¬ WtAt wt.var wt.rank.length s a r) : wtOk ar wt = false :=
  wtOk_f fun p => h (p.2.2.2 j s a r h1 h2 h3)
theorem wtOk_all {ar : List Int} {wt : Wt} (h1 : rankOk ar wt.rank = true) (h2 : wt.sym.length = ar.length) (h3 : 1 ≤ wt.var ∧ wt.var ≤ 20)
    (h : ∀ (j : Nat) (s a r : Int), j < wt.sym.length → wt.sym[j]? = some s → ar[j]? = some a → wt.rank[j]? = some r → WtAt wt.var wt.rank.length s a r) : wtOk ar wt = true :=
  wtOk_iff.2 ⟨rankOk_iff.1 h1, h2, h3, fun j s a r e1 e2 e3 => h j s a r (List.getElem?_eq_some_iff.1 e1).1 e1 e2 e3⟩

end Go.Proofs.Ytempekmenkeigaa

/-! MOften -/
namespace Go.Proofs.Ytempekmenkeigaa

/-- No variable is oftener in s than in t. -/
def oftP (s t : List Int) : Prop := ∀ x ∈ s, x < 0 → s.count x ≤ t.count x
instance (s t : List Int) : Decidable (oftP s t) := by unfold oftP; infer_instance
def oft (s t : List Int) : Bool := decide (oftP s t)
noncomputable def oftenIn (ar s t : List Int) : Bool := termOk ar s && termOk ar t && oft s t
theorem count_snoc {t : List Int} {k : Nat} {z x : Int} (h : t[k]? = some z) : (t.take (k + 1)).count x = (t.take k).count x + if z = x then 1 else 0 := by
  rw [take_snoc h, List.count_append]
  congr 1
  by_cases e : z = x
  · rw [if_pos e, e]; simp
  · rw [if_neg e]; simp [e]
theorem count_le_len {t : List Int} {x : Int} {n : Nat} (h : t.length = n) : t.count x ≤ n := h ▸ List.count_le_length
theorem oft_f {s t : List Int} {x : Int} {k : Nat} (h : s[k]? = some x) (h0 : x < 0) (hc : t.count x < s.count x) : oft s t = false := by
  simp only [oft, decide_eq_false_iff_not]
  exact fun H => absurd (H x (List.mem_of_getElem? h) h0) (by omega)
/-- So far no variable is oftener. -/
def OftTo (s t : List Int) (k : Nat) : Prop := ∀ x ∈ s.take k, x < 0 → s.count x ≤ t.count x
theorem OftTo.start {s t : List Int} : OftTo s t 0 := by intro x h; simp at h
theorem OftTo.done {s t : List Int} {k : Nat} (h : OftTo s t k) (hk : s.length ≤ k) : oft s t = true := by
  simp only [oft, decide_eq_true_eq]
  intro x hx
  exact h x (by rw [List.take_of_length_le hk]; exact hx)
theorem OftTo.step {s t : List Int} {k : Nat} {x : Int} (h : OftTo s t k) (hx : s[k]? = some x) (ho : x < 0 → s.count x ≤ t.count x) : OftTo s t (k + 1) := by
  intro y hy h0
  rw [take_snoc hx] at hy
  rcases List.mem_append.1 hy with hy | hy
  · exact h y hy h0
  · rw [List.mem_singleton] at hy; subst hy; exact ho h0

end Go.Proofs.Ytempekmenkeigaa

/-! Plain: weights of terms, and the order by them. -/
namespace Go.Proofs.Ytempekmenkeigaa

def wt1 (W : Wt) (x : Int) : Int := if x < 0 then W.var else W.sym.getD x.toNat 0
def wtOf (W : Wt) (t : List Int) : Int := (t.map (wt1 W)).sum
theorem wt1_var {W : Wt} {x : Int} (h : x < 0) : wt1 W x = W.var := by unfold wt1; rw [if_pos h]
theorem wt1_sym {W : Wt} {x s : Int} (h : ¬ x < 0) (hs : W.sym[x.toNat]? = some s) : wt1 W x = s := by
  unfold wt1; rw [if_neg h, List.getD_eq_getElem?_getD, hs]; rfl
theorem wtOf_snoc {W : Wt} {t : List Int} {k : Nat} {x : Int} (h : t[k]? = some x) : wtOf W (t.take (k + 1)) = wtOf W (t.take k) + wt1 W x := by
  unfold wtOf; rw [take_snoc h, List.map_append, List.sum_append]; simp
noncomputable def weightOf (ar : List Int) (W : Wt) (t : List Int) : Int := if wtOk ar W = true ∧ termOk ar t = true then wtOf W t else -1

/-- A symbol of one argument without weight. -/
def WrAt (ar : List Int) (W : Wt) (x : Int) : Prop := 0 ≤ x ∧ ar[x.toNat]? = some 1 ∧ W.sym[x.toNat]? = some 0
def WrP (ar : List Int) (W : Wt) (v : Int) (t : List Int) : Prop :=
  (∀ (j : Nat) (x : Int), j + 1 < t.length → t[j]? = some x → WrAt ar W x) ∧ 1 < t.length ∧ t[t.length - 1]? = some v
noncomputable def wraps (ar : List Int) (W : Wt) (v : Int) (t : List Int) : Bool := @decide (WrP ar W v t) (Classical.propDecidable _)
theorem wraps_f {ar : List Int} {W : Wt} {v : Int} {t : List Int} (h : ¬ WrP ar W v t) : wraps ar W v t = false := by simp only [wraps, decide_eq_false_iff_not]; exact h
theorem wraps_t {ar : List Int} {W : Wt} {v : Int} {t : List Int} (h : WrP ar W v t) : wraps ar W v t = true := by simp only [wraps, decide_eq_true_eq]; exact h
theorem wraps_at {ar : List Int} {W : Wt} {v : Int} {t : List Int} {j : Nat} {x : Int} (hj : j + 1 < t.length) (hx : t[j]? = some x) (h : ¬ WrAt ar W x) : wraps ar W v t = false := wraps_f fun p => h (p.1 j x hj hx)

def rk1 (W : Wt) (x : Int) : Int := W.rank.getD x.toNat 0
theorem rk1_at {W : Wt} {x r : Int} (h : W.rank[x.toNat]? = some r) : rk1 W x = r := by unfold rk1; rw [List.getD_eq_getElem?_getD, h]; rfl
mutual
noncomputable def kbo (ar : List Int) (W : Wt) : Tm → Tm → Int
  | .node x as, .node y bs =>
    if oft (Tm.node x as).flat (Tm.node y bs).flat = false then 0
    else if wtOf W (Tm.node x as).flat < wtOf W (Tm.node y bs).flat then 1
    else if wtOf W (Tm.node y bs).flat < wtOf W (Tm.node x as).flat ∨ y < 0 then 0
    else if x < 0 then (if wraps ar W x (Tm.node y bs).flat = true then 2 else 0)
    else if rk1 W x < rk1 W y then 3
    else if x = y ∧ kboL ar W as bs = true then 4 else 0
noncomputable def kboL (ar : List Int) (W : Wt) : List Tm → List Tm → Bool
  | a :: as, b :: bs => if a.flat = b.flat then kboL ar W as bs else decide (0 < kbo ar W a b)
  | _, _ => false
end
theorem kbo_node (ar : List Int) (W : Wt) (x y : Int) (as bs : List Tm) : kbo ar W (.node x as) (.node y bs) =
    if oft (Tm.node x as).flat (Tm.node y bs).flat = false then 0
    else if wtOf W (Tm.node x as).flat < wtOf W (Tm.node y bs).flat then 1
    else if wtOf W (Tm.node y bs).flat < wtOf W (Tm.node x as).flat ∨ y < 0 then 0
    else if x < 0 then (if wraps ar W x (Tm.node y bs).flat = true then 2 else 0)
    else if rk1 W x < rk1 W y then 3
    else if x = y ∧ kboL ar W as bs = true then 4 else 0 := by rw [kbo]
theorem kboL_nil (ar : List Int) (W : Wt) (bs : List Tm) : kboL ar W [] bs = false := by rw [kboL]; intros; contradiction
theorem kboL_cons (ar : List Int) (W : Wt) (a b : Tm) (as bs : List Tm) : kboL ar W (a :: as) (b :: bs) = if a.flat = b.flat then kboL ar W as bs else decide (0 < kbo ar W a b) := by rw [kboL]
/-- So far the arguments are the same. -/
def SameTo (as bs : List Tm) (k : Nat) : Prop := ∀ j, j < k → ∀ a b, as[j]? = some a → bs[j]? = some b → a.flat = b.flat
theorem kboL_same {ar : List Int} {W : Wt} : ∀ {k : Nat} {as bs : List Tm}, as.length = bs.length → SameTo as bs k → k ≤ as.length → kboL ar W as bs = kboL ar W (as.drop k) (bs.drop k)
  | 0, as, bs, _, _, _ => by simp
  | k + 1, [], bs, _, _, hk => by simp at hk
  | k + 1, a :: as, [], hl, _, _ => by simp at hl
  | k + 1, a :: as, b :: bs, hl, h, hk => by
    rw [kboL_cons, if_pos (h 0 (by omega) a b rfl rfl), List.drop_succ_cons, List.drop_succ_cons]
    exact kboL_same (by simpa using hl) (fun j hj a' b' e1 e2 => h (j + 1) (by omega) a' b' (by simpa using e1) (by simpa using e2)) (by simpa using hk)
theorem kboL_end {ar : List Int} {W : Wt} {as bs : List Tm} (hl : as.length = bs.length) (h : SameTo as bs as.length) : kboL ar W as bs = false := by
  rw [kboL_same hl h (Nat.le_refl _), List.drop_length, kboL_nil]
theorem kboL_at {ar : List Int} {W : Wt} {as bs : List Tm} {k : Nat} {a b : Tm} (hl : as.length = bs.length) (h : SameTo as bs k) (ha : as[k]? = some a) (hb : bs[k]? = some b) (hne : ¬ a.flat = b.flat) : kboL ar W as bs = decide (0 < kbo ar W a b) := by
  obtain ⟨h1, rfl⟩ := List.getElem?_eq_some_iff.1 ha
  obtain ⟨h2, rfl⟩ := List.getElem?_eq_some_iff.1 hb
  rw [kboL_same hl h (by omega), List.drop_eq_getElem_cons h1, List.drop_eq_getElem_cons h2, kboL_cons, if_neg hne]
theorem SameTo.step {as bs : List Tm} {k : Nat} {a b : Tm} (h : SameTo as bs k) (ha : as[k]? = some a) (hb : bs[k]? = some b) (e : a.flat = b.flat) : SameTo as bs (k + 1) := by
  intro j hj a' b' e1 e2
  rcases Nat.lt_or_ge j k with h' | h'
  · exact h j h' a' b' e1 e2
  · obtain rfl : j = k := by omega
    rw [ha] at e1; rw [hb] at e2; cases e1; cases e2; exact e
/-- The answer of KboWhy. -/
noncomputable def kboAns (ar : List Int) (W : Wt) (s t : List Int) : Int := if wtOk ar W = true ∧ termOk ar s = true ∧ termOk ar t = true then kbo ar W (tmOf ar s) (tmOf ar t) else 0

end Go.Proofs.Ytempekmenkeigaa

/-! Plain: linear polynomials over a signature. -/
namespace Go.Proofs.Ytempekmenkeigaa

structure Pl where
  c : Int
  cf : List Int

def szPsF (left : Int) (ps : List Pl) : Int := ps.foldl (fun l p => szI l p.cf.length) left
def szPolys (left : Int) (ps : List Pl) : Int := szPsF (szI left ps.length) ps
theorem szI_m1' (n : Nat) : szI (-1) n = -1 := szI_m1 (by omega)
theorem szPsF_m1 (ps : List Pl) : szPsF (-1) ps = -1 := by
  induction ps with
  | nil => rfl
  | cons p ps ih => show szPsF (szI (-1) _) ps = -1; rw [szI_m1']; exact ih
theorem szPsF_bd (left : Int) (ps : List Pl) (h : -1 ≤ left ∧ left ≤ 1048576) : -1 ≤ szPsF left ps ∧ szPsF left ps ≤ left := by
  induction ps generalizing left with
  | nil => exact ⟨h.1, Int.le_refl _⟩
  | cons p ps ih =>
    have h1 := szI_bd left p.cf.length h
    have h2 := szI_le left p.cf.length h.1
    have h3 := ih (szI left p.cf.length) h1
    exact ⟨h3.1, Int.le_trans h3.2 h2⟩
theorem szPolys_bd (left : Int) (ps : List Pl) (h : -1 ≤ left ∧ left ≤ 1048576) : -1 ≤ szPolys left ps ∧ szPolys left ps ≤ 1048576 := by
  have h1 := szI_bd left ps.length h
  have h2 := szPsF_bd _ ps h1
  exact ⟨h2.1, by show szPsF _ _ ≤ _; omega⟩
theorem szPsF_snoc (left : Int) (ps : List Pl) (p : Pl) : szPsF left (ps ++ [p]) = szI (szPsF left ps) p.cf.length := by simp [szPsF, List.foldl_append]
theorem szPsF_neg {left : Int} {ps : List Pl} {k : Nat} (h : szPsF left (ps.take k) = -1) : szPsF left ps = -1 := by
  have e : szPsF left ps = szPsF (szPsF left (ps.take k)) (ps.drop k) := by
    unfold szPsF; rw [← List.foldl_append, List.take_append_drop]
  rw [e, h]; exact szPsF_m1 _
theorem szPsF_ok {left : Int} {ps : List Pl} (hl : -1 ≤ left ∧ left ≤ 1048576) (h : 0 ≤ szPsF left ps) : ∀ p ∈ ps, (p.cf.length : Int) ≤ left := by
  induction ps generalizing left with
  | nil => simp
  | cons p ps ih =>
    have h1 := szI_bd left p.cf.length hl
    have h2 := szPsF_bd (szI left p.cf.length) ps h1
    have h0 : 0 ≤ szPsF (szI left p.cf.length) ps := h
    have h3 := szI_nonneg (left := left) (n := p.cf.length) (by omega)
    intro q hq
    rcases List.mem_cons.1 hq with rfl | hq
    · omega
    · have := ih h1 h0 q hq; omega
theorem szPolys_ok {left : Int} {ps : List Pl} (hl : -1 ≤ left ∧ left ≤ 1048576) (h : 0 ≤ szPolys left ps) : (ps.length : Int) ≤ left ∧ szPolys left ps ≤ left ∧ ∀ p ∈ ps, (p.cf.length : Int) ≤ left := by
  have h1 := szI_bd left ps.length hl
  have h2 := szPsF_bd (szI left ps.length) ps h1
  have h3 := szPsF_ok h1 h
  have h0 : 0 ≤ szPsF (szI left ps.length) ps := h
  have h4 := szI_nonneg (left := left) (n := ps.length) (by omega)
  exact ⟨h4.1, by show szPsF _ _ ≤ _; omega, fun p hp => by have := h3 p hp; omega⟩

/-- One polynomial is right for an arity. -/
def PlAt (n : Int) (p : Pl) : Prop := (p.cf.length : Int) = n ∧ (0 ≤ p.c ∧ p.c ≤ 9) ∧ ∀ x ∈ p.cf, 0 ≤ x ∧ x ≤ 9
def PolysP (ar : List Int) (ps : List Pl) : Prop := SigP ar ∧ ps.length = ar.length ∧ ∀ (j : Nat) (p : Pl) (n : Int), ps[j]? = some p → ar[j]? = some n → PlAt n p
noncomputable def plAt (n : Int) (p : Pl) : Bool := @decide (PlAt n p) (Classical.propDecidable _)
theorem plAt_t {n : Int} {p : Pl} (h : PlAt n p) : plAt n p = true := by simp only [plAt, decide_eq_true_eq]; exact h
theorem plAt_f {n : Int} {p : Pl} (h : ¬ PlAt n p) : plAt n p = false := by simp only [plAt, decide_eq_false_iff_not]; exact h
noncomputable def polysOk (ar : List Int) (ps : List Pl) : Bool := @decide (PolysP ar ps) (Classical.propDecidable _)
theorem polysOk_iff {ar : List Int} {ps : List Pl} : polysOk ar ps = true ↔ PolysP ar ps := by simp [polysOk]
theorem polysOk_f {ar : List Int} {ps : List Pl} (h : ¬ PolysP ar ps) : polysOk ar ps = false := by simp only [polysOk, decide_eq_false_iff_not]; exact h
theorem polysOk_sig {ar : List Int} {ps : List Pl} (h : sigOk ar = false) : polysOk ar ps = false := polysOk_f fun a => by rw [sigOk_iff.2 a.1] at h; cases h
theorem polysOk_len {ar : List Int} {ps : List Pl} (h : ¬ ps.length = ar.length) : polysOk ar ps = false := polysOk_f fun a => h a.2.1
theorem polysOk_at {ar : List Int} {ps : List Pl} {k : Nat} {p : Pl} {n : Int} (hp : ps[k]? = some p) (hn : ar[k]? = some n) (h : ¬ PlAt n p) : polysOk ar ps = false := polysOk_f fun a => h (a.2.2 k p n hp hn)
theorem polysOk_all {ar : List Int} {ps : List Pl} (h1 : sigOk ar = true) (h2 : ps.length = ar.length) (h : ∀ (j : Nat) (p : Pl) (n : Int), j < ps.length → ps[j]? = some p → ar[j]? = some n → PlAt n p) : polysOk ar ps = true :=
  polysOk_iff.2 ⟨sigOk_iff.1 h1, h2, fun j p n hp hn => h j p n (List.getElem?_eq_some_iff.1 hp).1 hp hn⟩

end Go.Proofs.Ytempekmenkeigaa

/-! Plain: linear forms of terms. -/
namespace Go.Proofs.Ytempekmenkeigaa

def addL : List Int → List Int → Int → List Int
  | as, [], _ => as
  | [], b :: bs, m => m * b :: addL [] bs m
  | a :: as, b :: bs, m => (a + m * b) :: addL as bs m
theorem addL_nil (as : List Int) (m : Int) : addL as [] m = as := by cases as <;> rfl
theorem addL_len : ∀ (as bs : List Int) (m : Int), (addL as bs m).length = max as.length bs.length
  | as, [], m => by rw [addL_nil]; simp
  | [], b :: bs, m => by rw [addL, List.length_cons, addL_len]; simp
  | a :: as, b :: bs, m => by rw [addL, List.length_cons, addL_len]; simp
theorem addL_get : ∀ (as bs : List Int) (m : Int) (j : Nat), (addL as bs m).getD j 0 = as.getD j 0 + m * bs.getD j 0
  | as, [], m, j => by rw [addL_nil]; simp
  | [], b :: bs, m, 0 => by simp [addL]
  | [], b :: bs, m, j + 1 => by
    have := addL_get [] bs m j
    simpa [addL] using this
  | a :: as, b :: bs, m, 0 => by simp [addL]
  | a :: as, b :: bs, m, j + 1 => by
    have := addL_get as bs m j
    simpa [addL] using this
theorem list_eq_getD {as bs : List Int} (hl : as.length = bs.length) (h : ∀ j, j < as.length → as.getD j 0 = bs.getD j 0) : as = bs := by
  apply List.ext_getElem hl
  intro j h1 h2
  have := h j h1
  simpa [List.getD_eq_getElem?_getD, List.getElem?_eq_getElem h1, List.getElem?_eq_getElem h2] using this
def addP (a b : Pl) (m : Int) : Pl := ⟨a.c + m * b.c, addL a.cf b.cf m⟩
def sumTo (p : Pl) (fs : List Pl) : Nat → Pl
  | 0 => ⟨p.c, []⟩
  | k + 1 => addP (sumTo p fs k) (fs.getD k ⟨0, []⟩) (p.cf.getD k 0)
/-- A number of it is too great. -/
def Big (f : Pl) : Prop := 1000000000000 < f.c ∨ ∃ x ∈ f.cf, 1000000000000 < x
/-- No number of it is less than 0 or greater than that. -/
def Upto (M : Int) (f : Pl) : Prop := (0 ≤ f.c ∧ f.c ≤ M) ∧ ∀ x ∈ f.cf, 0 ≤ x ∧ x ≤ M
def Fm (f : Pl) : Prop := Upto 1000000000000 f ∧ f.cf.length ≤ 24
theorem Upto.getD {M : Int} {f : Pl} (h : Upto M f) (hM : 0 ≤ M) (j : Nat) : 0 ≤ f.cf.getD j 0 ∧ f.cf.getD j 0 ≤ M := by
  rw [List.getD_eq_getElem?_getD]
  rcases hj : f.cf[j]? with _ | x
  · simpa using hM
  · exact h.2 x (List.mem_of_getElem? hj)
theorem Upto.of_getD {M : Int} {f : Pl} (hc : 0 ≤ f.c ∧ f.c ≤ M) (h : ∀ j, j < f.cf.length → 0 ≤ f.cf.getD j 0 ∧ f.cf.getD j 0 ≤ M) : Upto M f := by
  refine ⟨hc, fun x hx => ?_⟩
  obtain ⟨j, hj, rfl⟩ := List.mem_iff_getElem.1 hx
  have := h j hj
  rwa [List.getD_eq_getElem?_getD, List.getElem?_eq_getElem hj] at this
theorem mul_bd {m x : Int} (hm : 0 ≤ m ∧ m ≤ 9) {M : Int} (hx : 0 ≤ x ∧ x ≤ M) : 0 ≤ m * x ∧ m * x ≤ 9 * M :=
  ⟨Int.mul_nonneg hm.1 hx.1, Int.le_trans (Int.mul_le_mul_of_nonneg_right hm.2 hx.1) (Int.mul_le_mul_of_nonneg_left hx.2 (by omega))⟩
theorem addP_upto {A B : Int} {a b : Pl} {m : Int} (ha : Upto A a) (hA : 0 ≤ A) (hb : Upto B b) (hB : 0 ≤ B) (hm : 0 ≤ m ∧ m ≤ 9) : Upto (A + 9 * B) (addP a b m) := by
  have h1 := mul_bd hm hb.1
  refine Upto.of_getD ⟨?_, ?_⟩ fun j hj => ?_
  · show 0 ≤ a.c + m * b.c; have := ha.1; omega
  · show a.c + m * b.c ≤ _; have := ha.1; omega
  · show 0 ≤ (addL a.cf b.cf m).getD j 0 ∧ _
    rw [show (addP a b m).cf = addL a.cf b.cf m from rfl, addL_get]
    have h2 := ha.getD hA j
    have h3 := mul_bd hm (hb.getD hB j)
    omega
/-- The factors of a polynomial and the forms of its arguments. -/
def Parts (p : Pl) (fs : List Pl) : Prop := (0 ≤ p.c ∧ p.c ≤ 9) ∧ (∀ x ∈ p.cf, 0 ≤ x ∧ x ≤ 9) ∧ fs.length ≤ 3 ∧ ∀ f ∈ fs, Fm f
theorem Parts.get {p : Pl} {fs : List Pl} (h : Parts p fs) (k : Nat) : Upto 1000000000000 (fs.getD k ⟨0, []⟩) ∧ (fs.getD k ⟨0, []⟩).cf.length ≤ 24 := by
  rw [List.getD_eq_getElem?_getD]
  rcases hk : fs[k]? with _ | f
  · exact ⟨⟨by simp, by simp⟩, by simp⟩
  · exact h.2.2.2 f (List.mem_of_getElem? hk)
theorem Parts.fac {p : Pl} {fs : List Pl} (h : Parts p fs) (k : Nat) : 0 ≤ p.cf.getD k 0 ∧ p.cf.getD k 0 ≤ 9 := by
  rw [List.getD_eq_getElem?_getD]
  rcases hk : p.cf[k]? with _ | f
  · simp
  · exact h.2.1 f (List.mem_of_getElem? hk)
theorem sumTo_upto {p : Pl} {fs : List Pl} (h : Parts p fs) : ∀ k : Nat, Upto (9 + 9 * (k * 1000000000000)) (sumTo p fs k) ∧ (sumTo p fs k).cf.length ≤ 24
  | 0 => ⟨⟨⟨h.1.1, by have := h.1.2; show p.c ≤ _; omega⟩, by simp [sumTo]⟩, by simp [sumTo]⟩
  | k + 1 => by
    obtain ⟨h1, h2⟩ := sumTo_upto h k
    obtain ⟨h3, h4⟩ := h.get k
    have h5 := addP_upto h1 (by omega) h3 (by omega) (h.fac k)
    refine ⟨?_, ?_⟩
    · show Upto _ (addP _ _ _)
      refine ⟨⟨h5.1.1, by have := h5.1.2; omega⟩, fun x hx => ?_⟩
      have := h5.2 x hx; omega
    · show (addL _ _ _).length ≤ 24
      rw [addL_len]; omega
theorem Big.iff {f : Pl} : Big f ↔ 1000000000000 < f.c ∨ ∃ j, j < f.cf.length ∧ 1000000000000 < f.cf.getD j 0 := by
  constructor
  · rintro (h | ⟨x, hx, h⟩)
    · exact .inl h
    · obtain ⟨j, hj, rfl⟩ := List.mem_iff_getElem.1 hx
      exact .inr ⟨j, hj, by rwa [List.getD_eq_getElem?_getD, List.getElem?_eq_getElem hj]⟩
  · rintro (h | ⟨j, hj, h⟩)
    · exact .inl h
    · exact .inr ⟨_, List.getElem_mem hj, by rwa [List.getD_eq_getElem?_getD, List.getElem?_eq_getElem hj] at h⟩
theorem Big.step {p : Pl} {fs : List Pl} (h : Parts p fs) {k : Nat} (hb : Big (sumTo p fs k)) : Big (sumTo p fs (k + 1)) := by
  obtain ⟨h3, _⟩ := h.get k
  have hm := h.fac k
  rw [Big.iff] at hb ⊢
  rcases hb with hb | ⟨j, hj, hb⟩
  · left
    show _ < (sumTo p fs k).c + _ * _
    have := mul_bd hm h3.1; omega
  · right
    refine ⟨j, ?_, ?_⟩
    · show j < (addL _ _ _).length
      rw [addL_len]; omega
    · show _ < (addL _ _ _).getD j 0
      rw [addL_get]
      have := mul_bd hm (h3.getD (by omega) j); omega
theorem Big.mono {p : Pl} {fs : List Pl} (h : Parts p fs) {k n : Nat} (hkn : k ≤ n) (hb : Big (sumTo p fs k)) : Big (sumTo p fs n) := by
  induction n with
  | zero => obtain rfl : k = 0 := by omega
            exact hb
  | succ n ih =>
    rcases Nat.lt_or_ge k (n + 1) with h1 | h1
    · exact Big.step h (ih (by omega))
    · obtain rfl : k = n + 1 := by omega
      exact hb
theorem fm_of_not_big {p : Pl} {fs : List Pl} (h : Parts p fs) {k : Nat} (hb : ¬ Big (sumTo p fs k)) : Fm (sumTo p fs k) := by
  obtain ⟨h1, h2⟩ := sumTo_upto h k
  refine ⟨⟨⟨h1.1.1, ?_⟩, fun x hx => ⟨(h1.2 x hx).1, ?_⟩⟩, h2⟩
  · have : ¬ 1000000000000 < (sumTo p fs k).c := fun h => hb (.inl h)
    omega
  · have : ¬ 1000000000000 < x := fun h => hb (.inr ⟨x, hx, h⟩)
    omega
open Classical in
noncomputable def appP (p : Pl) (fs : List Pl) : Option Pl := if Big (sumTo p fs fs.length) then none else some (sumTo p fs fs.length)
/-- The form of a variable. -/
def varPl (x : Int) : Pl := ⟨0, List.replicate ((-x).toNat - 1) 0 ++ [1]⟩
mutual
noncomputable def form (ps : List Pl) : Tm → Option Pl
  | .node x us => if x < 0 then some (varPl x) else (formL ps us).bind fun fs => appP (ps.getD x.toNat ⟨0, []⟩) fs
noncomputable def formL (ps : List Pl) : List Tm → Option (List Pl)
  | [] => some []
  | a :: us => (form ps a).bind fun f => (formL ps us).map fun fs => f :: fs
end
theorem form_node (ps : List Pl) (x : Int) (us : List Tm) : form ps (.node x us) = if x < 0 then some (varPl x) else (formL ps us).bind fun fs => appP (ps.getD x.toNat ⟨0, []⟩) fs := by rw [form]
theorem formL_nil (ps : List Pl) : formL ps [] = some [] := by rw [formL]
theorem formL_cons (ps : List Pl) (a : Tm) (us : List Tm) : formL ps (a :: us) = (form ps a).bind fun f => (formL ps us).map fun fs => f :: fs := by rw [formL]
theorem formL_none {ps : List Pl} : ∀ {us : List Tm} {j : Nat} {a : Tm}, us[j]? = some a → form ps a = none → formL ps us = none
  | b :: us, 0, a, h, hf => by simp at h; subst h; rw [formL_cons, hf]; rfl
  | b :: us, j + 1, a, h, hf => by
    rw [formL_cons, formL_none (by simpa using h) hf]
    cases form ps b <;> rfl
theorem formL_some {ps : List Pl} : ∀ {us : List Tm} {fs : List Pl}, fs.length = us.length → (∀ (j : Nat) (a : Tm) (f : Pl), us[j]? = some a → fs[j]? = some f → form ps a = some f) → formL ps us = some fs
  | [], [], _, _ => by rw [formL_nil]
  | [], f :: fs, h, _ => by simp at h
  | b :: us, [], h, _ => by simp at h
  | b :: us, f :: fs, hl, h => by
    rw [formL_cons, h 0 b f rfl rfl, formL_some (by simpa using hl) (fun j a g e1 e2 => h (j + 1) a g (by simpa using e1) (by simpa using e2))]
    rfl
theorem varPl_fm {x : Int} (h : x < 0) (h2 : -24 ≤ x) : Fm (varPl x) := by
  refine ⟨⟨⟨Int.le_refl _, by show (0 : Int) ≤ 1000000000000; omega⟩, fun y hy => ?_⟩, ?_⟩
  · simp only [varPl, List.mem_append, List.mem_replicate, List.mem_singleton] at hy
    omega
  · simp only [varPl, List.length_append, List.length_replicate, List.length_singleton]
    omega
mutual
theorem form_fm {ar : List Int} {ps : List Pl} (hps : ∀ p ∈ ps, (0 ≤ p.c ∧ p.c ≤ 9) ∧ ∀ x ∈ p.cf, 0 ≤ x ∧ x ≤ 9) (h3 : ∀ (x : Int) (a : Nat), arI ar x = some a → a ≤ 3) : ∀ (u : Tm), u.Ok ar → (∀ y ∈ u.flat, -24 ≤ y) → ∀ f, form ps u = some f → Fm f
  | .node x us, hu, hv, f, h => by
    rw [form_node] at h
    by_cases hx : x < 0
    · rw [if_pos hx] at h
      cases h
      exact varPl_fm hx (hv x (by rw [flat_node]; exact List.mem_cons_self))
    · rw [if_neg hx] at h
      obtain ⟨fs, h1, h2⟩ := Option.bind_eq_some_iff.1 h
      obtain ⟨hk, hl⟩ := Ok_node.1 hu
      obtain ⟨hfs, hlen⟩ := formL_fm hps h3 us hl (fun y hy => hv y (by rw [flat_node]; exact List.mem_cons_of_mem _ hy)) fs h1
      have hp : (0 ≤ (ps.getD x.toNat ⟨0, []⟩).c ∧ (ps.getD x.toNat ⟨0, []⟩).c ≤ 9) ∧ ∀ y ∈ (ps.getD x.toNat ⟨0, []⟩).cf, 0 ≤ y ∧ y ≤ 9 := by
        rw [List.getD_eq_getElem?_getD]
        rcases hj : ps[x.toNat]? with _ | p
        · simp
        · exact hps p (List.mem_of_getElem? hj)
      have hP : Parts (ps.getD x.toNat ⟨0, []⟩) fs := ⟨hp.1, hp.2, by have := h3 x _ hk; omega, hfs⟩
      unfold appP at h2
      split at h2
      · cases h2
      · rename_i hb
        cases h2
        exact fm_of_not_big hP hb
theorem formL_fm {ar : List Int} {ps : List Pl} (hps : ∀ p ∈ ps, (0 ≤ p.c ∧ p.c ≤ 9) ∧ ∀ x ∈ p.cf, 0 ≤ x ∧ x ≤ 9) (h3 : ∀ (x : Int) (a : Nat), arI ar x = some a → a ≤ 3) : ∀ (us : List Tm), OkL ar us → (∀ y ∈ flatL us, -24 ≤ y) → ∀ fs, formL ps us = some fs → (∀ f ∈ fs, Fm f) ∧ fs.length = us.length
  | [], _, _, fs, h => by rw [formL_nil] at h; cases h; exact ⟨fun f hf => (by cases hf), rfl⟩
  | a :: us, hu, hv, fs, h => by
    rw [formL_cons] at h
    obtain ⟨f, h1, h2⟩ := Option.bind_eq_some_iff.1 h
    obtain ⟨gs, h4, rfl⟩ := Option.map_eq_some_iff.1 h2
    obtain ⟨k1, k2⟩ := OkL_cons.1 hu
    have hf := form_fm hps h3 a k1 (fun y hy => hv y (by rw [flatL_cons]; exact List.mem_append_left _ hy)) f h1
    obtain ⟨hg, hl⟩ := formL_fm hps h3 us k2 (fun y hy => hv y (by rw [flatL_cons]; exact List.mem_append_right _ hy)) gs h4
    exact ⟨fun q hq => (List.mem_cons.1 hq).elim (fun e => e ▸ hf) (fun h => hg q h), by simp [hl]⟩
end

/-- The greatest of some numbers. -/
def maxL (t : List Int) : Int := match t with
  | [] => 0
  | x :: xs => xs.foldl (fun a b => if a < b then b else a) x
theorem maxL_snoc {t : List Int} {y : Int} (h : t ≠ []) : maxL (t ++ [y]) = if maxL t < y then y else maxL t := by
  cases t with
  | nil => exact absurd rfl h
  | cons x xs =>
    show List.foldl _ x (xs ++ [y]) = _
    rw [List.foldl_append]; rfl
theorem maxL_gt {t : List Int} {m : Int} (h : t ≠ []) : m < maxL t ↔ ∃ x ∈ t, m < x := by
  cases t with
  | nil => exact absurd rfl h
  | cons x xs =>
    have : ∀ (l : List Int) (a : Int), m < l.foldl (fun a b => if a < b then b else a) a ↔ m < a ∨ ∃ x ∈ l, m < x := by
      intro l
      induction l with
      | nil => intro a; simp
      | cons b l ih =>
        intro a
        rw [List.foldl_cons, ih]
        by_cases hb : a < b
        · rw [if_pos hb]; simp only [List.mem_cons, exists_eq_or_imp]; constructor
          · rintro (h1 | h1)
            · exact .inr (.inl h1)
            · exact .inr (.inr h1)
          · rintro (h1 | h1 | h1)
            · exact .inl (by omega)
            · exact .inl h1
            · exact .inr h1
        · rw [if_neg hb]; simp only [List.mem_cons, exists_eq_or_imp]; constructor
          · rintro (h1 | h1)
            · exact .inl h1
            · exact .inr (.inr h1)
          · rintro (h1 | h1 | h1)
            · exact .inl h1
            · exact .inl (by omega)
            · exact .inr h1
    show m < xs.foldl _ x ↔ _
    rw [this]; simp
theorem big_max {f : Pl} (h : f.cf ≠ []) : Big f ↔ 1000000000000 < f.c ∨ 1000000000000 < maxL f.cf := by unfold Big; rw [maxL_gt h]
theorem big_nil {f : Pl} (h : f.cf = []) : Big f ↔ 1000000000000 < f.c := by unfold Big; rw [h]; simp
/-- The factor of a variable, 0 where there is none. -/
def nth (xs : List Int) (k : Nat) : Int := xs.getD k 0
/-- No factor is greater. -/
def Most (a b : Pl) : Prop := ∀ (j : Nat) (x : Int), a.cf[j]? = some x → x ≤ nth b.cf j
noncomputable def most (a b : Pl) : Bool := @decide (Most a b) (Classical.propDecidable _)
theorem most_f {a b : Pl} {j : Nat} {x : Int} (hx : a.cf[j]? = some x) (h : nth b.cf j < x) : most a b = false := by
  simp only [most, decide_eq_false_iff_not]; exact fun H => by have := H j x hx; omega
theorem most_t {a b : Pl} (h : ∀ (j : Nat) (x : Int), j < a.cf.length → a.cf[j]? = some x → x ≤ nth b.cf j) : most a b = true := by
  simp only [most, decide_eq_true_eq]; exact fun j x hx => h j x (List.getElem?_eq_some_iff.1 hx).1 hx

end Go.Proofs.Ytempekmenkeigaa

/-! Plain: terms filled, and steps at places. -/
namespace Go.Proofs.Ytempekmenkeigaa
set_option linter.unusedVariables false

mutual
/-- A tree whose variables become trees. -/
def Tm.sub (g : Int → Tm) : Tm → Tm
  | .node x as => if x < 0 then g x else .node x (subL g as)
def subL (g : Int → Tm) : List Tm → List Tm
  | [] => []
  | a :: as => a.sub g :: subL g as
end
theorem sub_node (g : Int → Tm) (x : Int) (as : List Tm) : (Tm.node x as).sub g = if x < 0 then g x else .node x (subL g as) := by rw [Tm.sub]
theorem sub_var {g : Int → Tm} {x : Int} {as : List Tm} (h : x < 0) : (Tm.node x as).sub g = g x := by rw [sub_node, if_pos h]
theorem sub_sym {g : Int → Tm} {x : Int} {as : List Tm} (h : ¬ x < 0) : (Tm.node x as).sub g = .node x (subL g as) := by rw [sub_node, if_neg h]
theorem subL_map (g : Int → Tm) : ∀ (as : List Tm), subL g as = as.map (Tm.sub g)
  | [] => by rw [subL]; rfl
  | a :: as => by rw [subL, subL_map g as]; rfl
theorem subL_nil (g : Int → Tm) : subL g [] = [] := by rw [subL]
theorem subL_cons (g : Int → Tm) (a : Tm) (as : List Tm) : subL g (a :: as) = a.sub g :: subL g as := by rw [subL]
theorem subL_len (g : Int → Tm) (as : List Tm) : (subL g as).length = as.length := by rw [subL_map, List.length_map]
/-- .. and its list. -/
def fill (h : Int → List Int) (t : List Int) : List Int := t.flatMap fun x => if x < 0 then h x else [x]
theorem fill_nil (h : Int → List Int) : fill h [] = [] := rfl
theorem fill_cons (h : Int → List Int) (x : Int) (t : List Int) : fill h (x :: t) = (if x < 0 then h x else [x]) ++ fill h t := by unfold fill; rw [List.flatMap_cons]
theorem fill_append (h : Int → List Int) (s t : List Int) : fill h (s ++ t) = fill h s ++ fill h t := by unfold fill; rw [List.flatMap_append]
theorem fill_congr {h k : Int → List Int} {t : List Int} (e : ∀ x ∈ t, x < 0 → h x = k x) : fill h t = fill k t := by
  induction t with
  | nil => rfl
  | cons x t ih =>
    rw [fill_cons, fill_cons, ih fun y hy => e y (List.mem_cons_of_mem _ hy)]
    by_cases h0 : x < 0
    · rw [if_pos h0, if_pos h0, e x List.mem_cons_self h0]
    · rw [if_neg h0, if_neg h0]
theorem arI_var {ar : List Int} {x : Int} (h : x < 0) : arI ar x = some 0 := by unfold arI; rw [if_pos h]
mutual
theorem flat_sub' {ar : List Int} (g : Int → Tm) : ∀ (u : Tm), u.Ok ar → (u.sub g).flat = fill (fun x => (g x).flat) u.flat
  | .node x as, h => by
    obtain ⟨h1, h2⟩ := Ok_node.1 h
    by_cases h0 : x < 0
    · rw [arI_var h0] at h1
      have e : as = [] := List.length_eq_zero_iff.1 (Option.some.inj h1).symm
      subst e
      rw [sub_var h0, flat_node, flatL_nil, fill_cons, if_pos h0, fill_nil, List.append_nil]
    · rw [sub_sym h0, flat_node, flat_node, fill_cons, if_neg h0, flatL_sub g as h2]; rfl
theorem flatL_sub {ar : List Int} (g : Int → Tm) : ∀ (as : List Tm), OkL ar as → flatL (subL g as) = fill (fun x => (g x).flat) (flatL as)
  | [], _ => by rw [subL_nil, flatL_nil, fill_nil]
  | a :: as, h => by
    obtain ⟨h1, h2⟩ := OkL_cons.1 h
    rw [subL_cons, flatL_cons, flatL_cons, fill_append, flat_sub' g a h1, flatL_sub g as h2]
end
mutual
theorem sub_ok {ar : List Int} {g : Int → Tm} (hg : ∀ x, x < 0 → (g x).Ok ar) : ∀ (u : Tm), u.Ok ar → (u.sub g).Ok ar
  | .node x as, h => by
    obtain ⟨h1, h2⟩ := Ok_node.1 h
    by_cases h0 : x < 0
    · rw [sub_var h0]; exact hg x h0
    · rw [sub_sym h0, Ok_node, subL_len]; exact ⟨h1, subL_ok hg as h2⟩
theorem subL_ok {ar : List Int} {g : Int → Tm} (hg : ∀ x, x < 0 → (g x).Ok ar) : ∀ (as : List Tm), OkL ar as → OkL ar (subL g as)
  | [], _ => by rw [subL_nil]; simp [OkL]
  | a :: as, h => by
    obtain ⟨h1, h2⟩ := OkL_cons.1 h
    rw [subL_cons, OkL_cons]; exact ⟨sub_ok hg a h1, subL_ok hg as h2⟩
end
mutual
theorem sub_congr {ar : List Int} {g k : Int → Tm} : ∀ (u : Tm), u.Ok ar → (∀ x ∈ u.flat, x < 0 → g x = k x) → u.sub g = u.sub k
  | .node x as, h, e => by
    obtain ⟨h1, h2⟩ := Ok_node.1 h
    rw [flat_node] at e
    by_cases h0 : x < 0
    · rw [sub_var h0, sub_var h0, e x List.mem_cons_self h0]
    · rw [sub_sym h0, sub_sym h0, subL_congr as h2 fun y hy => e y (List.mem_cons_of_mem _ hy)]
theorem subL_congr {ar : List Int} {g k : Int → Tm} : ∀ (as : List Tm), OkL ar as → (∀ x ∈ flatL as, x < 0 → g x = k x) → subL g as = subL k as
  | [], _, _ => by rw [subL_nil, subL_nil]
  | a :: as, h, e => by
    obtain ⟨h1, h2⟩ := OkL_cons.1 h
    rw [flatL_cons] at e
    rw [subL_cons, subL_cons, sub_congr a h1 fun y hy => e y (List.mem_append_left _ hy), subL_congr as h2 fun y hy => e y (List.mem_append_right _ hy)]
end

/-- One tree becomes another one at a place. -/
inductive At (R : Tm → Tm → Prop) : Nat → Tm → Tm → Prop
  | here {u v : Tm} : R u v → At R 0 u v
  | arg {x : Int} {as bs : List Tm} {a b : Tm} {p : Nat} : At R p a b → At R (1 + (flatL as).length + p) (.node x (as ++ a :: bs)) (.node x (as ++ b :: bs))
theorem At.imp {R S : Tm → Tm → Prop} (hR : ∀ u v, R u v → S u v) {p : Nat} {u v : Tm} (h : At R p u v) : At S p u v := by
  induction h with
  | here h => exact .here (hR _ _ h)
  | arg _ ih => exact .arg ih
theorem OkL_append {ar : List Int} {as bs : List Tm} : OkL ar (as ++ bs) ↔ OkL ar as ∧ OkL ar bs := by
  rw [OkL_iff, OkL_iff, OkL_iff]
  constructor
  · exact fun h => ⟨fun a ha => h a (List.mem_append_left _ ha), fun a ha => h a (List.mem_append_right _ ha)⟩
  · rintro ⟨h1, h2⟩ a ha
    rcases List.mem_append.1 ha with ha | ha
    · exact h1 a ha
    · exact h2 a ha
theorem At.ok {ar : List Int} {R : Tm → Tm → Prop} (hR : ∀ u v, R u v → v.Ok ar) {p : Nat} {u v : Tm} (h : At R p u v) : u.Ok ar → v.Ok ar := by
  induction h with
  | here h => exact fun _ => hR _ _ h
  | arg h ih =>
    intro hu
    obtain ⟨h1, h2⟩ := Ok_node.1 hu
    obtain ⟨h3, h4⟩ := OkL_append.1 h2
    obtain ⟨h5, h6⟩ := OkL_cons.1 h4
    exact Ok_node.2 ⟨by rw [h1]; simp, OkL_append.2 ⟨h3, OkL_cons.2 ⟨ih h5, h6⟩⟩⟩
mutual
/-- What stands at a place may be put out for another tree. -/
theorem at_put {ar : List Int} {a b : Tm} (ha : a.Ok ar) : ∀ (t : Tm), t.Ok ar → ∀ (p : Nat) (post : List Int), p < t.flat.length → t.flat.drop p = a.flat ++ post →
    ∃ t', At (fun u v => u = a ∧ v = b) p t t' ∧ t'.flat = t.flat.take p ++ b.flat ++ post
  | .node x as, ht, 0, post, _, h => by
    rw [List.drop_zero] at h
    obtain ⟨e1, e2⟩ := flat_inj (.node x as) a ht ha [] post (by rw [List.append_nil]; exact h)
    exact ⟨b, .here ⟨e1, rfl⟩, by rw [← e2]; simp⟩
  | .node x as, ht, p + 1, post, hp, h => by
    rw [flat_node] at h hp
    rw [List.drop_succ_cons] at h
    obtain ⟨l1, c, l2, c', q, e1, e2, e3, e4⟩ := atL_put (b := b) ha as (Ok_node.1 ht).2 p post (by simpa using hp) h
    subst e1
    have h5 : At (fun u v => u = a ∧ v = b) (1 + (flatL l1).length + q) (.node x (l1 ++ c :: l2)) (.node x (l1 ++ c' :: l2)) := .arg e3
    refine ⟨.node x (l1 ++ c' :: l2), ?_, ?_⟩
    · rw [show p + 1 = 1 + (flatL l1).length + q by omega]; exact h5
    · rw [flat_node, flat_node, List.take_succ_cons, List.cons_append, List.cons_append, e4]
theorem atL_put {ar : List Int} {a b : Tm} (ha : a.Ok ar) : ∀ (as : List Tm), OkL ar as → ∀ (p : Nat) (post : List Int), p < (flatL as).length → (flatL as).drop p = a.flat ++ post →
    ∃ (l1 : List Tm) (c : Tm) (l2 : List Tm) (c' : Tm) (q : Nat), as = l1 ++ c :: l2 ∧ p = (flatL l1).length + q ∧ At (fun u v => u = a ∧ v = b) q c c' ∧ flatL (l1 ++ c' :: l2) = (flatL as).take p ++ b.flat ++ post
  | [], _, p, post, hp, _ => by rw [flatL_nil] at hp; simp at hp
  | c :: as, hl, p, post, hp, h => by
    obtain ⟨k1, k2⟩ := OkL_cons.1 hl
    rw [flatL_cons, List.length_append] at hp
    rw [flatL_cons] at h
    by_cases h1 : p < c.flat.length
    · obtain ⟨v, rest, hv, hd⟩ := sub_ex c k1 p h1
      rw [List.drop_append_of_le_length (by omega), hd, List.append_assoc] at h
      obtain ⟨e1, e2⟩ := flat_inj v a hv ha _ _ h
      subst e1
      obtain ⟨c', e3, e4⟩ := at_put (b := b) ha c k1 p rest h1 hd
      refine ⟨[], c, as, c', p, rfl, by rw [flatL_nil]; simp, e3, ?_⟩
      rw [List.nil_append, flatL_cons, e4, flatL_cons, ← e2, List.take_append_of_le_length (by omega)]
      simp
    · have h2 : (flatL as).drop (p - c.flat.length) = a.flat ++ post := by
        rw [List.drop_append, List.drop_of_length_le (by omega), List.nil_append] at h; exact h
      obtain ⟨l1, d, l2, d', q, e1, e2, e3, e4⟩ := atL_put (b := b) ha as k2 (p - c.flat.length) post (by omega) h2
      have h9 : p = (flatL (c :: l1)).length + q := by
        have h8 : (flatL (c :: l1)).length = c.flat.length + (flatL l1).length := by rw [flatL_cons, List.length_append]
        omega
      refine ⟨c :: l1, d, l2, d', q, by rw [e1]; rfl, h9, e3, ?_⟩
      rw [List.cons_append, flatL_cons, e4, flatL_cons, List.take_append, List.take_of_length_le (l := c.flat) (i := p) (by omega)]
      simp
end

/-- What a list of terms gives for a variable. -/
def gives (σ : List (List Int)) (x : Int) : List Int := if σ.getD (-1 - x).toNat [] = [] then [x] else σ.getD (-1 - x).toNat []
theorem gives_no {σ : List (List Int)} {x : Int} (h : σ.getD (-1 - x).toNat [] = []) : gives σ x = [x] := if_pos h
theorem gives_yes {σ : List (List Int)} {x : Int} {t : List Int} (h : σ.getD (-1 - x).toNat [] = t) (h0 : t ≠ []) : gives σ x = t := by
  unfold gives; rw [h, if_neg h0]
/-- A right list of terms for variables. -/
def SubP (ar : List Int) (σ : List (List Int)) : Prop := σ.length ≤ 24 ∧ ∀ t ∈ σ, t ≠ [] → TermP ar t
noncomputable def givT (ar : List Int) (σ : List (List Int)) (x : Int) : Tm := tmOf ar (gives σ x)
theorem SubP.at_ {ar : List Int} {σ : List (List Int)} (h : SubP ar σ) (k : Nat) : σ.getD k [] = [] ∨ TermP ar (σ.getD k []) := by
  rw [List.getD_eq_getElem?_getD]
  rcases hk : σ[k]? with _ | t
  · exact .inl rfl
  · by_cases h0 : t = []
    · exact .inl (by rw [h0]; rfl)
    · exact .inr (h.2 t (List.mem_of_getElem? hk) h0)
theorem var_ok (ar : List Int) {x : Int} (h : x < 0) : (Tm.node x []).Ok ar := Ok_node.2 ⟨by rw [arI_var h]; rfl, by simp [OkL]⟩
theorem givT_ok {ar : List Int} {σ : List (List Int)} (h : SubP ar σ) {x : Int} (hx : x < 0) : (givT ar σ x).Ok ar ∧ (givT ar σ x).flat = gives σ x := by
  unfold givT
  rcases h.at_ (-1 - x).toNat with h1 | h1
  · rw [gives_no h1]
    have e : [x] = (Tm.node x []).flat := by rw [flat_node, flatL_nil]
    rw [e, tmOf_flat (var_ok ar hx)]
    exact ⟨var_ok ar hx, rfl⟩
  · rw [gives_yes rfl fun e => by rw [e] at h1; exact absurd h1.2.1.1 (by simp)]
    exact tmOf_ok h1
/-- A right term filled, as a tree. -/
theorem fill_tree {ar : List Int} {σ : List (List Int)} (h : SubP ar σ) {u : Tm} (hu : u.Ok ar) : (u.sub (givT ar σ)).Ok ar ∧ (u.sub (givT ar σ)).flat = fill (gives σ) u.flat := by
  refine ⟨sub_ok (fun x hx => (givT_ok h hx).1) u hu, ?_⟩
  rw [flat_sub' _ u hu]
  exact fill_congr fun x _ hx => (givT_ok h hx).2

/-- A right term, by its tree. -/
theorem termP_flat {ar : List Int} {u : Tm} (hs : SigP ar) (hu : u.Ok ar) (hl : u.flat.length ≤ 60) (hv : ∀ x ∈ u.flat, -24 ≤ x) : TermP ar u.flat := by
  refine ⟨hs, ⟨flat_pos u, hl⟩, hv, ?_⟩
  have := scan_flat u hu [] 0
  rw [List.append_nil, scan_zero] at this
  rw [this]; simp
end Go.Proofs.Ytempekmenkeigaa

/-! Plain: steps by rules. -/
namespace Go.Proofs.Ytempekmenkeigaa
set_option linter.unusedVariables false

/-- One step. -/
structure Stp where
  at_ : Int
  rule : Int
  to : List Int
def StepP (s : Sy) (t : List Int) (q : Stp) : Prop := ∃ (k p : Nat) (r : Ru) (σ : List (List Int)), q.rule = k ∧ q.at_ = p ∧ s.rs[k]? = some r ∧ p < t.length ∧ SubP s.ar σ ∧ fill (gives σ) r.l = (subT s.ar t p).flat ∧
  q.to = t.take p ++ fill (gives σ) r.r ++ t.drop (p + (subT s.ar t p).flat.length) ∧ q.to.length ≤ 60
/-- .. of trees. -/
def RuT (s : Sy) (k : Nat) (r : Ru) (u v : Tm) : Prop := ∃ g : Int → Tm, (∀ x, x < 0 → (g x).Ok s.ar) ∧ s.rs[k]? = some r ∧ u = (tmOf s.ar r.l).sub g ∧ v = (tmOf s.ar r.r).sub g
theorem fill_ge {ar : List Int} {σ : List (List Int)} {t : List Int} (hσ : SubP ar σ) (ht : ∀ x ∈ t, -24 ≤ x) : ∀ z ∈ fill (gives σ) t, -24 ≤ z := by
  intro z hz
  unfold fill at hz
  obtain ⟨q, hq1, hq2⟩ := List.mem_flatMap.1 hz
  have hq := ht q hq1
  by_cases h0 : q < 0
  · rw [if_pos h0] at hq2
    rcases hσ.at_ (-1 - q).toNat with h1 | h1
    · rw [gives_no h1, List.mem_singleton] at hq2; subst hq2; exact hq
    · rw [gives_yes rfl (fun e => by rw [e] at h1; exact absurd h1.2.1.1 (by simp))] at hq2
      exact h1.2.2.1 z hq2
  · rw [if_neg h0, List.mem_singleton] at hq2; omega
theorem stepP_tree {s : Sy} {t : List Int} {q : Stp} (hs : SysP s) (ht : TermP s.ar t) (h : StepP s t q) :
    ∃ (k p : Nat) (r : Ru) (T' : Tm), q.rule = k ∧ q.at_ = p ∧ s.rs[k]? = some r ∧ p < t.length ∧ At (RuT s k r) p (tmOf s.ar t) T' ∧ T'.Ok s.ar ∧ T'.flat = q.to ∧ TermP s.ar q.to := by
  obtain ⟨k, p, r, σ, e1, e2, hr, hp, hσ, hl, hto, h60⟩ := h
  obtain ⟨o1, f1⟩ := tmOf_ok ht
  obtain ⟨hL, hR, _⟩ := hs.2.2 k r hr
  obtain ⟨oL, fL⟩ := tmOf_ok hL
  obtain ⟨oR, fR⟩ := tmOf_ok hR
  obtain ⟨oL2, fL2⟩ := fill_tree hσ oL
  obtain ⟨oR2, fR2⟩ := fill_tree hσ oR
  obtain ⟨oS, rest, hd⟩ := subT_ok ht hp
  rw [fL] at fL2
  rw [fR] at fR2
  have hsub : subT s.ar t p = (tmOf s.ar r.l).sub (givT s.ar σ) := flat_inj' oS oL2 (by rw [fL2, hl])
  rw [hsub] at hd hto
  obtain ⟨T', hA, hf⟩ := at_put (b := (tmOf s.ar r.r).sub (givT s.ar σ)) oL2 (tmOf s.ar t) o1 p rest (by rw [f1]; exact hp) (by rw [f1]; exact hd)
  have hrest : t.drop (p + ((tmOf s.ar r.l).sub (givT s.ar σ)).flat.length) = rest := by
    rw [← List.drop_drop, hd]; simp
  have hf' : T'.flat = q.to := by rw [hf, hto, f1, fR2, hrest]
  have hoT : T'.Ok s.ar := At.ok (fun u v h => by rw [h.2]; exact oR2) hA o1
  refine ⟨k, p, r, T', e1, e2, hr, hp, hA.imp (fun u v h => ⟨givT s.ar σ, fun x hx => (givT_ok hσ hx).1, hr, h.1, h.2⟩), hoT, hf', ?_⟩
  rw [← hf']
  refine termP_flat ht.1 hoT (by rw [hf']; exact h60) ?_
  rw [hf', hto]
  intro x hx
  rcases List.mem_append.1 hx with hx | hx
  · rcases List.mem_append.1 hx with hx | hx
    · exact ht.2.2.1 x (List.mem_of_mem_take hx)
    · exact fill_ge hσ hR.2.2.1 x hx
  · exact ht.2.2.1 x (List.mem_of_mem_drop hx)
/-- The end of a part of a right term, by the reference. -/
theorem endS_sub {ar t rest : List Int} {p : Nat} {u : Tm} (ht : ∀ x ∈ t, -24 ≤ x) (hu : u.Ok ar) (hd : t.drop p = u.flat ++ rest) : endS ar t p = ((p + u.flat.length : Nat) : Int) := by
  have h1 : scan (arI ar) (t.drop p) 1 = some u.flat.length := by
    rw [hd, show (1 : Nat) = 0 + 1 from rfl, scan_flat u hu, scan_zero]; simp
  have h2 : scan (arS ar) (t.drop p) 1 = some u.flat.length := scan_SI.2 ⟨h1, fun x hx => ht x (List.mem_of_mem_drop (List.mem_of_mem_take hx))⟩
  unfold endS endF
  rw [h2]
/-- A part of a right term is right. -/
theorem sub_term {ar t : List Int} {k : Nat} (ht : TermP ar t) (hk : k < t.length) : TermP ar (subT ar t k).flat ∧ k + (subT ar t k).flat.length ≤ t.length ∧ ∃ rest, t.drop k = (subT ar t k).flat ++ rest := by
  obtain ⟨h1, rest, h2⟩ := subT_ok ht hk
  have hl := congrArg List.length h2
  rw [List.length_drop, List.length_append] at hl
  have hp := flat_pos (subT ar t k)
  have h60 := ht.2.1.2
  exact ⟨termP_flat ht.1 h1 (by omega) (fun x hx => ht.2.2.1 x (List.mem_of_mem_drop (by rw [h2]; exact List.mem_append_left _ hx))), by omega, rest, h2⟩
/-- What has been matched so far: of p the first i, of t the first k. -/
structure MtP (ar p t : List Int) (τ : List (List Int)) (i k : Nat) : Prop where
  tl : τ.length = 24
  ok : ∀ j, τ.getD j [] = [] ∨ TermP ar (τ.getD j [])
  fl : fill (gives τ) (p.take i) = t.take k
  as_ : ∀ x ∈ p.take i, x < 0 → τ.getD (-1 - x).toNat [] ≠ []
  ik : k ≤ t.length
  on : ∀ j : Nat, τ.getD j [] ≠ [] → (-1 - (j : Int)) ∈ p.take i
theorem MtP.start (ar p t : List Int) : MtP ar p t (List.replicate 24 []) 0 0 :=
  ⟨by simp, fun j => .inl (by rw [List.getD_eq_getElem?_getD, List.getElem?_replicate]; split <;> rfl), by simp [fill_nil], fun x hx => by simp at hx, Nat.zero_le _, fun j h => absurd (by rw [List.getD_eq_getElem?_getD, List.getElem?_replicate]; split <;> rfl) h⟩
theorem MtP.sym {ar p t : List Int} {τ : List (List Int)} {i k : Nat} {x : Int} (h : MtP ar p t τ i k) (hx : p[i]? = some x) (h0 : ¬ x < 0) (ht : t[k]? = some x) : MtP ar p t τ (i + 1) (k + 1) := by
  refine ⟨h.tl, h.ok, ?_, fun y hy hy0 => ?_, (List.getElem?_eq_some_iff.1 ht).1, fun j hj => by rw [take_snoc hx]; exact List.mem_append_left _ (h.on j hj)⟩
  · rw [take_snoc hx, take_snoc ht, fill_append, fill_cons, if_neg h0, fill_nil, h.fl]; rfl
  · rw [take_snoc hx] at hy
    rcases List.mem_append.1 hy with hy | hy
    · exact h.as_ y hy hy0
    · rw [List.mem_singleton] at hy; subst hy; exact absurd hy0 h0
theorem getD_set {τ : List (List Int)} {v j : Nat} {u : List Int} (hv : v < τ.length) : (τ.set v u).getD j [] = if v = j then u else τ.getD j [] := by
  rw [List.getD_eq_getElem?_getD, List.getD_eq_getElem?_getD, List.getElem?_set]
  by_cases e : v = j
  · subst e; rw [if_pos rfl, if_pos hv, if_pos rfl]; rfl
  · rw [if_neg e, if_neg e]
theorem MtP.var {ar p t : List Int} {τ : List (List Int)} {i k : Nat} {x : Int} (h : MtP ar p t τ i k) (hx : p[i]? = some x) (h0 : x < 0) (h24 : -24 ≤ x) (hu : TermP ar (subT ar t k).flat) (hd : ∃ rest, t.drop k = (subT ar t k).flat ++ rest)
    (ho : τ.getD (-1 - x).toNat [] = [] ∨ τ.getD (-1 - x).toNat [] = (subT ar t k).flat) : MtP ar p t (τ.set (-1 - x).toNat (subT ar t k).flat) (i + 1) (k + (subT ar t k).flat.length) := by
  have hv : (-1 - x).toNat < τ.length := by rw [h.tl]; omega
  have hne : (subT ar t k).flat ≠ [] := fun e => by have := hu.2.1.1; rw [e] at this; simp at this
  have hsame : ∀ y ∈ p.take i, y < 0 → gives (τ.set (-1 - x).toNat (subT ar t k).flat) y = gives τ y := fun y hy hy0 => by
    unfold gives
    rw [getD_set hv]
    by_cases e : (-1 - x).toNat = (-1 - y).toNat
    · rw [if_pos e]
      have hey : y = x := by omega
      subst hey
      have := (ho.resolve_left (h.as_ y hy hy0))
      rw [this]
    · rw [if_neg e]
  obtain ⟨rest, hd⟩ := hd
  have hklen : k + (subT ar t k).flat.length ≤ t.length := by
    have := congrArg List.length hd
    rw [List.length_drop, List.length_append] at this
    have := flat_pos (subT ar t k)
    omega
  refine ⟨by rw [List.length_set, h.tl], fun j => ?_, ?_, fun y hy hy0 => ?_, hklen, fun j hj => ?_⟩
  · rw [getD_set hv]
    by_cases e : (-1 - x).toNat = j
    · rw [if_pos e]; exact .inr hu
    · rw [if_neg e]; exact h.ok j
  · rw [take_snoc hx, fill_append, fill_congr hsame, h.fl, fill_cons, if_pos h0, fill_nil, List.append_nil]
    rw [gives_yes (t := (subT ar t k).flat) (by rw [getD_set hv, if_pos rfl]) hne]
    rw [List.take_add, hd]; simp
  · rw [getD_set hv]
    by_cases e : (-1 - x).toNat = (-1 - y).toNat
    · rw [if_pos e]; exact hne
    · rw [if_neg e]
      rw [take_snoc hx] at hy
      rcases List.mem_append.1 hy with hy | hy
      · exact h.as_ y hy hy0
      · rw [List.mem_singleton] at hy; subst hy; exact absurd rfl e
  · rw [take_snoc hx]
    rw [getD_set hv] at hj
    by_cases e : (-1 - x).toNat = j
    · refine List.mem_append_right _ (List.mem_singleton.2 ?_)
      omega
    · rw [if_neg e] at hj
      exact List.mem_append_left _ (h.on j hj)
theorem MtP.sub {ar p t : List Int} {τ : List (List Int)} {i k : Nat} (h : MtP ar p t τ i k) : SubP ar τ := ⟨by rw [h.tl]; exact Nat.le_refl _, fun u hu h0 => by
  obtain ⟨j, hj, e⟩ := List.mem_iff_getElem.1 hu
  have := h.ok j
  rw [List.getD_eq_getElem?_getD, List.getElem?_eq_getElem hj, e] at this
  exact this.resolve_left h0⟩
theorem MtP.done {ar p t : List Int} {τ : List (List Int)} {i k : Nat} (h : MtP ar p t τ i k) (hp : TermP ar p) (ht : TermP ar t) (hi : p.length ≤ i) : fill (gives τ) p = t := by
  have h1 := h.fl
  rw [List.take_of_length_le hi] at h1
  obtain ⟨o1, f1⟩ := tmOf_ok hp
  obtain ⟨o2, f2⟩ := tmOf_ok ht
  obtain ⟨o3, f3⟩ := fill_tree h.sub o1
  rw [f1] at f3
  have h2 : ((tmOf ar p).sub (givT ar τ)).flat ++ t.drop k = (tmOf ar t).flat ++ [] := by
    rw [f3, h1, f2, List.take_append_drop, List.append_nil]
  obtain ⟨_, e⟩ := flat_inj _ _ o3 o2 _ _ h2
  rw [h1, ← List.append_nil (t.take k), ← e, List.take_append_drop]
theorem subT_eqS {ar t rest : List Int} {p : Nat} {u : Tm} (h : TermP ar t) (hu : u.Ok ar) (hd : t.drop p = u.flat ++ rest) : subT ar t p = u := by
  have hp : p < t.length := by
    have h1 := congrArg List.length hd
    have h2 := flat_pos u
    rw [List.length_drop, List.length_append] at h1
    omega
  obtain ⟨h1, rest', h2⟩ := subT_ok h hp
  exact (flat_inj _ _ h1 hu _ _ (by rw [← h2, hd])).1
/-- An instance. -/
def InstP (ar p t : List Int) : Prop := ∃ g : Int → List Int, (∀ x ∈ p, x < 0 → ∃ u : Tm, u.Ok ar ∧ g x = u.flat) ∧ fill g p = t
theorem fill_pre {ar : List Int} {h g : Int → List Int} : ∀ {q r1 r2 : List Int}, (∀ x ∈ q, x < 0 → ∃ u : Tm, u.Ok ar ∧ h x = u.flat) → (∀ x ∈ q, x < 0 → ∃ u : Tm, u.Ok ar ∧ g x = u.flat) → fill h q ++ r1 = fill g q ++ r2 →
    fill h q = fill g q ∧ r1 = r2 ∧ ∀ x ∈ q, x < 0 → h x = g x
  | [], r1, r2, _, _, he => ⟨rfl, by simpa [fill_nil] using he, fun x hx => by cases hx⟩
  | x :: q, r1, r2, hh, hg, he => by
    rw [fill_cons, fill_cons, List.append_assoc, List.append_assoc] at he
    by_cases hx : x < 0
    · rw [if_pos hx, if_pos hx] at he
      obtain ⟨u, ou, eu⟩ := hh x (List.mem_cons_self ..) hx
      obtain ⟨v, ov, ev⟩ := hg x (List.mem_cons_self ..) hx
      rw [eu, ev] at he
      obtain ⟨e1, e2⟩ := flat_inj u v ou ov _ _ he
      obtain ⟨h1, h2, h3⟩ := fill_pre (fun y hy => hh y (List.mem_cons_of_mem _ hy)) (fun y hy => hg y (List.mem_cons_of_mem _ hy)) e2
      have hxx : h x = g x := by rw [eu, ev, e1]
      refine ⟨by rw [fill_cons, fill_cons, if_pos hx, if_pos hx, hxx, h1], h2, fun y hy hy0 => ?_⟩
      rcases List.mem_cons.1 hy with rfl | hy
      · exact hxx
      · exact h3 y hy hy0
    · rw [if_neg hx, if_neg hx] at he
      obtain ⟨h1, h2, h3⟩ := fill_pre (fun y hy => hh y (List.mem_cons_of_mem _ hy)) (fun y hy => hg y (List.mem_cons_of_mem _ hy)) (List.append_cancel_left he)
      refine ⟨by rw [fill_cons, fill_cons, if_neg hx, if_neg hx, h1], h2, fun y hy hy0 => ?_⟩
      rcases List.mem_cons.1 hy with rfl | hy
      · exact absurd hy0 hx
      · exact h3 y hy hy0
theorem MtP.inst {ar p t : List Int} {τ : List (List Int)} {i k : Nat} {g : Int → List Int} (h : MtP ar p t τ i k) (hg : ∀ x ∈ p, x < 0 → ∃ u : Tm, u.Ok ar ∧ g x = u.flat) (hf : fill g p = t) :
    fill g (p.drop i) = t.drop k ∧ ∀ x ∈ p.take i, x < 0 → gives τ x = g x := by
  have h1 : fill (gives τ) (p.take i) ++ t.drop k = fill g (p.take i) ++ fill g (p.drop i) := by
    rw [h.fl, List.take_append_drop, ← fill_append, List.take_append_drop, hf]
  obtain ⟨_, h2, h3⟩ := fill_pre (ar := ar) (fun x hx hx0 => by
    have hne := h.as_ x hx hx0
    have ht := (h.ok (-1 - x).toNat).resolve_left hne
    rw [gives_yes rfl hne]
    exact ⟨_, (tmOf_ok ht).1, (tmOf_ok ht).2.symm⟩) (fun x hx => hg x (List.mem_of_mem_take hx)) h1
  exact ⟨h2.symm, h3⟩
theorem MtP.no_short {ar p t : List Int} {τ : List (List Int)} {i k : Nat} {x : Int} (h : MtP ar p t τ i k) (hx : p[i]? = some x) (hk : t.length ≤ k) : ¬ InstP ar p t := by
  rintro ⟨g, hg, hf⟩
  obtain ⟨h1, _⟩ := h.inst hg hf
  have hi := (List.getElem?_eq_some_iff.1 hx).1
  rw [List.drop_eq_getElem_cons hi, fill_cons, List.drop_of_length_le hk] at h1
  have h2 := (List.append_eq_nil_iff.1 h1).1
  split at h2
  · rename_i h0
    obtain ⟨u, _, e⟩ := hg _ (List.getElem_mem hi) h0
    rw [e] at h2
    have := flat_pos u
    rw [h2] at this
    simp at this
  · cases h2
theorem MtP.no_sym {ar p t : List Int} {τ : List (List Int)} {i k : Nat} {x y : Int} (h : MtP ar p t τ i k) (hx : p[i]? = some x) (h0 : ¬ x < 0) (hy : t[k]? = some y) (hn : x ≠ y) : ¬ InstP ar p t := by
  rintro ⟨g, hg, hf⟩
  obtain ⟨h1, _⟩ := h.inst hg hf
  obtain ⟨hi, ex⟩ := List.getElem?_eq_some_iff.1 hx
  obtain ⟨hk, ey⟩ := List.getElem?_eq_some_iff.1 hy
  rw [List.drop_eq_getElem_cons hi, fill_cons, ex, if_neg h0, List.drop_eq_getElem_cons hk, ey] at h1
  exact hn (by simpa using (List.cons_eq_cons.1 h1).1)
theorem MtP.no_var {ar p t : List Int} {τ : List (List Int)} {i k : Nat} {x : Int} (h : MtP ar p t τ i k) (ht : TermP ar t) (hx : p[i]? = some x) (h0 : x < 0) (ho : τ.getD (-1 - x).toNat [] ≠ []) (hn : (τ.getD (-1 - x).toNat [] == (subT ar t k).flat) = false) : ¬ InstP ar p t := by
  rintro ⟨g, hg, hf⟩
  obtain ⟨h1, h2⟩ := h.inst hg hf
  obtain ⟨hi, ex⟩ := List.getElem?_eq_some_iff.1 hx
  have hin := h.on _ ho
  rw [show -1 - (((-1 - x).toNat : Nat) : Int) = x by omega] at hin
  have h3 := h2 x hin h0
  rw [gives_yes rfl ho] at h3
  obtain ⟨u, ou, eu⟩ := hg x (List.mem_of_mem_take hin) h0
  rw [List.drop_eq_getElem_cons hi, fill_cons, ex, if_pos h0, eu] at h1
  rw [subT_eqS ht ou h1.symm, h3, eu] at hn
  simp at hn
/-- The plain one. -/
def plainAt (τ : List (List Int)) (j : Nat) : List Int := if gives τ (-1 - (j : Int)) = [-1 - (j : Int)] then [] else gives τ (-1 - (j : Int))
def plainL (τ : List (List Int)) (n : Nat) : List (List Int) := (List.range n).map (plainAt τ)
theorem plainL_succ (τ : List (List Int)) (n : Nat) : plainL τ (n + 1) = plainL τ n ++ [plainAt τ n] := by unfold plainL; rw [List.range_succ, List.map_append]; rfl
theorem plainL_len (τ : List (List Int)) (n : Nat) : (plainL τ n).length = n := by simp [plainL]
/-- Without the last ones, where they are empty. -/
structure PlP (τ σ : List (List Int)) (n : Nat) : Prop where
  eq : σ = (plainL τ n).take σ.length
  le : σ.length ≤ n
  em : ∀ j, σ.length ≤ j → j < n → plainAt τ j = []
theorem PlP.start (τ : List (List Int)) (n : Nat) : PlP τ (plainL τ n) n := ⟨by rw [List.take_of_length_le (Nat.le_refl _)], by rw [plainL_len]; exact Nat.le_refl _, fun j h1 h2 => by rw [plainL_len] at h1; omega⟩
theorem PlP.last {τ σ : List (List Int)} {n j : Nat} (h : PlP τ σ n) (hj : j < σ.length) : σ[j]? = some (plainAt τ j) := by
  rw [h.eq, List.getElem?_take, if_pos hj]
  have := h.le
  unfold plainL
  rw [List.getElem?_map, List.getElem?_range (by omega)]; rfl
theorem PlP.cut {τ σ : List (List Int)} {n m : Nat} (h : PlP τ σ n) (hm : σ.length = m + 1) (he : plainAt τ m = []) : PlP τ (σ.take m) n := by
  have hl : (σ.take m).length = m := by simp; omega
  refine ⟨?_, by have := h.le; omega, fun j h1 h2 => ?_⟩
  · rw [hl]
    have := h.eq
    rw [hm] at this
    rw [this, List.take_take, Nat.min_eq_left (by omega)]
  · rw [hl] at h1
    rcases Nat.eq_or_lt_of_le h1 with e | e
    · rw [← e]; exact he
    · exact h.em j (by omega) h2
theorem PlP.gives {τ σ : List (List Int)} {n : Nat} (h : PlP τ σ n) (hn : τ.length ≤ n) {x : Int} (hx : x < 0) : gives σ x = gives τ x := by
  obtain ⟨j, hj⟩ := Int.eq_ofNat_of_zero_le (show 0 ≤ -1 - x by omega)
  obtain rfl : x = -1 - (j : Int) := by omega
  have ej : (-1 - (-1 - (j : Int))).toNat = j := by omega
  by_cases h1 : j < σ.length
  · have h2 := h.last h1
    have h3 : σ.getD j [] = plainAt τ j := by rw [List.getD_eq_getElem?_getD, h2]; rfl
    by_cases h4 : Go.Proofs.Ytempekmenkeigaa.gives τ (-1 - (j : Int)) = [-1 - (j : Int)]
    · rw [h4]; refine gives_no ?_
      rw [ej, h3]; unfold plainAt; rw [if_pos h4]
    · have h5 : plainAt τ j = Go.Proofs.Ytempekmenkeigaa.gives τ (-1 - (j : Int)) := by unfold plainAt; rw [if_neg h4]
      refine gives_yes (by rw [ej, h3, h5]) ?_
      intro e
      unfold Go.Proofs.Ytempekmenkeigaa.gives at e
      split at e
      · cases e
      · exact absurd e (by assumption)
  · have h3 : σ.getD j [] = [] := by rw [List.getD_eq_getElem?_getD, List.getElem?_eq_none (by omega)]; rfl
    rw [gives_no (by rw [ej]; exact h3)]
    by_cases h6 : j < n
    · have h4 := h.em j (by omega) h6
      unfold plainAt at h4
      split at h4
      · rw [‹Go.Proofs.Ytempekmenkeigaa.gives τ (-1 - (j : Int)) = _›]
      · exfalso
        unfold Go.Proofs.Ytempekmenkeigaa.gives at h4
        split at h4
        · cases h4
        · exact absurd h4 (by assumption)
    · rw [gives_no (by rw [ej, List.getD_eq_getElem?_getD, List.getElem?_eq_none (by omega)]; rfl)]
theorem PlP.sub {ar : List Int} {τ σ : List (List Int)} {n : Nat} (h : PlP τ σ n) (hτ : SubP ar τ) (hn : n ≤ 24) : SubP ar σ := by
  refine ⟨by have := h.le; omega, fun u hu h0 => ?_⟩
  obtain ⟨j, hj, e⟩ := List.mem_iff_getElem.1 hu
  have h1 := h.last hj
  rw [List.getElem?_eq_getElem hj, e] at h1
  have h2 := Option.some.inj h1
  unfold plainAt at h2
  split at h2
  · exact absurd h2 h0
  · rw [h2]
    rename_i h3
    rcases hτ.at_ (-1 - (-1 - (j : Int))).toNat with h4 | h4
    · exact absurd (gives_no h4) h3
    · rw [gives_yes rfl (fun e => by rw [e] at h4; exact absurd h4.2.1.1 (by simp))]; exact h4
end Go.Proofs.Ytempekmenkeigaa

/-! Several texts in one: MUni, MUniS, MUniT. -/
namespace Go.Proofs.Ytempekmenkeigaa
set_option linter.unusedSimpArgs false
set_option linter.unusedVariables false

/-! Plain: two terms made one by what variables have. -/
mutual
theorem sub_sub (g h : Int → Tm) : ∀ u : Tm, (u.sub g).sub h = u.sub fun x => (g x).sub h
  | .node x as => by
    by_cases h0 : x < 0
    · rw [sub_var h0, sub_var h0]
    · rw [sub_sym h0, sub_sym h0, sub_sym h0, subL_subL g h as]
theorem subL_subL (g h : Int → Tm) : ∀ as : List Tm, subL h (subL g as) = subL (fun x => (g x).sub h) as
  | [] => by rw [subL_nil, subL_nil, subL_nil]
  | a :: as => by rw [subL_cons, subL_cons, subL_cons, sub_sub g h a, subL_subL g h as]
end
/-- A variable as a tree. -/
def vr (x : Int) : Tm := .node x []
theorem vr_flat (x : Int) : (vr x).flat = [x] := by unfold vr; rw [flat_node, flatL_nil]
theorem vr_ok (ar : List Int) {x : Int} (h : x < 0) : (vr x).Ok ar := var_ok ar h
theorem vr_sub {g : Int → Tm} {x : Int} (h : x < 0) : (vr x).sub g = g x := sub_var h
theorem ok_var {ar : List Int} {x : Int} {as : List Tm} (h : (Tm.node x as).Ok ar) (hx : x < 0) : Tm.node x as = vr x := by
  have h1 := (Ok_node.1 h).1
  rw [arI_var hx] at h1
  have e : as = [] := List.length_eq_zero_iff.1 (Option.some.inj h1).symm
  rw [e]; rfl
mutual
theorem sub_id {ar : List Int} : ∀ u : Tm, u.Ok ar → u.sub vr = u
  | .node x as, h => by
    by_cases h0 : x < 0
    · rw [sub_var h0, ok_var h h0]
    · rw [sub_sym h0, subL_id as (Ok_node.1 h).2]
theorem subL_id {ar : List Int} : ∀ as : List Tm, OkL ar as → subL vr as = as
  | [], _ => subL_nil _
  | a :: as, h => by
    obtain ⟨h1, h2⟩ := OkL_cons.1 h
    rw [subL_cons, sub_id a h1, subL_id as h2]
end
theorem mem_fill {h : Int → List Int} {t : List Int} {z : Int} : z ∈ fill h t ↔ ∃ y ∈ t, (y < 0 ∧ z ∈ h y) ∨ (¬ y < 0 ∧ z = y) := by
  unfold fill
  rw [List.mem_flatMap]
  constructor
  · rintro ⟨y, h1, h2⟩
    by_cases h0 : y < 0
    · rw [if_pos h0] at h2; exact ⟨y, h1, .inl ⟨h0, h2⟩⟩
    · rw [if_neg h0, List.mem_singleton] at h2; exact ⟨y, h1, .inr ⟨h0, h2⟩⟩
  · rintro ⟨y, h1, ⟨h0, h2⟩ | ⟨h0, rfl⟩⟩
    · exact ⟨y, h1, by rw [if_pos h0]; exact h2⟩
    · exact ⟨z, h1, by rw [if_neg h0]; simp⟩
theorem mem_sub {ar : List Int} {g : Int → Tm} {u : Tm} (hu : u.Ok ar) {z : Int} : z ∈ (u.sub g).flat ↔ ∃ y ∈ u.flat, (y < 0 ∧ z ∈ (g y).flat) ∨ (¬ y < 0 ∧ z = y) := by
  rw [flat_sub' g u hu]; exact mem_fill
theorem fill_len_le {h : Int → List Int} {M : Nat} (hM : 1 ≤ M) : ∀ {t : List Int}, (∀ x ∈ t, x < 0 → (h x).length ≤ M) → (fill h t).length ≤ t.length * M
  | [], _ => by rw [fill_nil]; simp
  | x :: t, hh => by
    rw [fill_cons, List.length_append, List.length_cons, Nat.add_mul, Nat.one_mul]
    have h2 := fill_len_le hM fun y hy => hh y (List.mem_cons_of_mem _ hy)
    have h3 : (if x < 0 then h x else [x]).length ≤ M := by
      by_cases h0 : x < 0
      · rw [if_pos h0]; exact hh x List.mem_cons_self h0
      · rw [if_neg h0]; exact hM
    omega
theorem fill_len_ge {h : Int → List Int} {x : Int} (hx : x < 0) : ∀ {t : List Int}, x ∈ t → (h x).length ≤ (fill h t).length
  | y :: t, hm => by
    rw [fill_cons, List.length_append]
    rcases List.mem_cons.1 hm with rfl | hm
    · rw [if_pos hx]; omega
    · have := fill_len_ge (h := h) hx hm; omega
theorem arg_len {ar : List Int} {g : Int → Tm} {x : Int} {as : List Tm} {a : Tm} (hx : ¬ x < 0) (ha : a ∈ as) : (a.sub g).flat.length < ((Tm.node x as).sub g).flat.length := by
  rw [sub_sym hx, flat_node, List.length_cons]
  have := mem_flatL_len (a := a.sub g) (as := subL g as) (by rw [subL_map]; exact List.mem_map_of_mem ha)
  omega

/-- What variables have, filled in to the end. -/
structure Tri (ar : List Int) (b : Int → Option Tm) (σ : Int → Tm) (r : Int → Nat) : Prop where
  neg : ∀ x t, b x = some t → x < 0
  ok : ∀ x t, b x = some t → t.Ok ar
  dom : ∀ x t, b x = some t → ∀ y ∈ t.flat, -48 ≤ y
  sok : ∀ x, x < 0 → (σ x).Ok ar
  bnd : ∀ x t, b x = some t → σ x = t.sub σ
  lt : ∀ x t, b x = some t → ∀ y ∈ t.flat, y < 0 → r y < r x
  unb : ∀ x, x < 0 → b x = none → σ x = vr x
  fin : ∀ x, x < 0 → ∀ y ∈ (σ x).flat, y < 0 → b y = none
/-- A filling agrees with what variables have. -/
def Sol (θ : Int → Tm) (b : Int → Option Tm) : Prop := ∀ x t, b x = some t → θ x = t.sub θ
def setB (b : Int → Option Tm) (x : Int) (t : Tm) : Int → Option Tm := fun y => if y = x then some t else b y
theorem setB_same (b : Int → Option Tm) (x : Int) (t : Tm) : setB b x t x = some t := if_pos rfl
theorem setB_other {b : Int → Option Tm} {x y : Int} {t : Tm} (h : y ≠ x) : setB b x t y = b y := if_neg h
theorem Tri.start (ar : List Int) : Tri ar (fun _ => none) vr (fun _ => 0) :=
  ⟨(fun _ _ h => nomatch h), (fun _ _ h => nomatch h), (fun _ _ h => nomatch h), (fun x hx => vr_ok ar hx), (fun _ _ h => nomatch h), (fun _ _ h => nomatch h), (fun _ _ _ => rfl), (fun _ _ _ _ _ => rfl)⟩
section
variable {ar : List Int} {b : Int → Option Tm} {σ θ : Int → Tm} {r : Int → Nat} {x : Int} {t u v : Tm}
theorem Tri.sol (h : Tri ar b σ r) : Sol σ b := h.bnd
/-- Filled to the end and filled once more is filled. -/
theorem Tri.twice (h : Tri ar b σ r) (hs : Sol θ b) : ∀ n x, r x < n → x < 0 → (σ x).sub θ = θ x := by
  intro n
  induction n with
  | zero => intro x hn; omega
  | succ n ih =>
    intro x hn hx
    rcases hb : b x with _ | t
    · rw [h.unb x hx hb, vr_sub hx]
    · rw [h.bnd x t hb, sub_sub, hs x t hb]
      exact sub_congr t (h.ok x t hb) fun y hy h0 => ih y (by have := h.lt x t hb y hy h0; omega) h0
theorem Tri.full (h : Tri ar b σ r) (hs : Sol θ b) (ht : t.Ok ar) : (t.sub σ).sub θ = t.sub θ := by
  rw [sub_sub]
  exact sub_congr t ht fun y hy h0 => h.twice hs _ y (Nat.lt_succ_self _) h0
theorem Tri.free (h : Tri ar b σ r) (ht : t.Ok ar) {y : Int} (hy : y ∈ (t.sub σ).flat) (h0 : y < 0) : b y = none := by
  obtain ⟨z, hz, ⟨h1, h2⟩ | ⟨h1, h2⟩⟩ := (mem_sub ht).1 hy
  · exact h.fin z h1 y h2 h0
  · subst h2; exact absurd h0 h1
theorem mem_le_sum {r : Int → Nat} {y : Int} : ∀ {l : List Int}, y ∈ l → r y ≤ (l.map r).sum
  | z :: l, hy => by
    rw [List.map_cons, List.sum_cons]
    rcases List.mem_cons.1 hy with rfl | hy
    · omega
    · have := mem_le_sum (r := r) hy; omega
/-- A variable that has nothing gets a term in which it does not stand. -/
theorem Tri.bind (h : Tri ar b σ r) (hx : x < 0) (hb : b x = none) (ht : t.Ok ar) (hd : ∀ y ∈ t.flat, -48 ≤ y) (hn : x ∉ (t.sub σ).flat) :
    ∃ σ' r', Tri ar (setB b x t) σ' r' ∧ ∀ u : Tm, u.Ok ar → (u.sub σ').flat.length ≤ (u.sub σ).flat.length * (t.sub σ).flat.length := by
  classical
  obtain ⟨s, hs⟩ : ∃ s : Int → Tm, s = fun z => if z = x then t.sub σ else vr z := ⟨_, rfl⟩
  have sx : s x = t.sub σ := by rw [hs]; exact if_pos rfl
  have so : ∀ z, z ≠ x → s z = vr z := fun z hz => by rw [hs]; exact if_neg hz
  have tok : (t.sub σ).Ok ar := sub_ok h.sok t ht
  have sok : ∀ z, z < 0 → (s z).Ok ar := fun z hz => by
    by_cases e : z = x
    · rw [e, sx]; exact tok
    · rw [so z e]; exact vr_ok ar hz
  have σx : σ x = vr x := h.unb x hx hb
  have tid : (t.sub σ).sub s = t.sub σ := by
    conv => rhs; rw [← sub_id (t.sub σ) tok]
    exact sub_congr _ tok fun y hy _ => so y fun e => hn (e ▸ hy)
  have reach : ∀ (y : Int) (t' : Tm), b y = some t' → ∀ z ∈ t'.flat, z < 0 → ∀ q, q ∈ (σ z).flat → q ∈ (σ y).flat := fun y t' hy z hz h0 q hq => by
    rw [h.bnd y t' hy]; exact (mem_sub (h.ok y t' hy)).2 ⟨z, hz, .inl ⟨h0, hq⟩⟩
  have nreach : ∀ z ∈ t.flat, z < 0 → x ∉ (σ z).flat := fun z hz h0 hq => hn ((mem_sub ht).2 ⟨z, hz, .inl ⟨h0, hq⟩⟩)
  obtain ⟨M, hM⟩ : ∃ M, M = (t.flat.map r).sum + 1 := ⟨_, rfl⟩
  refine ⟨fun y => (σ y).sub s, fun y => if x ∈ (σ y).flat then r y + M else r y, ⟨?_, ?_, ?_, ?_, ?_, ?_, ?_, ?_⟩, ?_⟩
  · intro y t' hy
    by_cases e : y = x
    · rw [e]; exact hx
    · rw [setB_other e] at hy; exact h.neg y t' hy
  · intro y t' hy
    by_cases e : y = x
    · rw [e, setB_same] at hy; cases hy; exact ht
    · rw [setB_other e] at hy; exact h.ok y t' hy
  · intro y t' hy
    by_cases e : y = x
    · rw [e, setB_same] at hy; cases hy; exact hd
    · rw [setB_other e] at hy; exact h.dom y t' hy
  · intro y hy; exact sub_ok sok _ (h.sok y hy)
  · intro y t' hy
    show (σ y).sub s = t'.sub fun y => (σ y).sub s
    by_cases e : y = x
    · rw [e, setB_same] at hy; cases hy
      rw [e, σx, vr_sub hx, sx, ← sub_sub, tid]
    · rw [setB_other e] at hy
      rw [h.bnd y t' hy, sub_sub]
  · intro y t' hy z hz h0
    show (if x ∈ (σ z).flat then r z + M else r z) < (if x ∈ (σ y).flat then r y + M else r y)
    by_cases e : y = x
    · rw [e, setB_same] at hy; cases hy
      rw [if_neg (nreach z hz h0), e, σx, vr_flat, if_pos (by simp), hM]
      have := mem_le_sum (r := r) hz; omega
    · rw [setB_other e] at hy
      have h1 := h.lt y t' hy z hz h0
      by_cases h2 : x ∈ (σ z).flat
      · rw [if_pos h2, if_pos (reach y t' hy z hz h0 x h2)]; omega
      · rw [if_neg h2]
        by_cases h3 : x ∈ (σ y).flat
        · rw [if_pos h3]; omega
        · rw [if_neg h3]; exact h1
  · intro y hy hn'
    show (σ y).sub s = vr y
    by_cases e : y = x
    · rw [e, setB_same] at hn'; cases hn'
    · rw [setB_other e] at hn'
      rw [h.unb y hy hn', vr_sub hy, so y e]
  · intro y hy z hz h0
    obtain ⟨q, hq, ⟨h1, h2⟩ | ⟨h1, h2⟩⟩ := (mem_sub (h.sok y hy)).1 hz
    · by_cases e : q = x
      · rw [e, sx] at h2
        have : z ≠ x := fun e => hn (e ▸ h2)
        rw [setB_other this]; exact h.free ht h2 h0
      · rw [so q e, vr_flat, List.mem_singleton] at h2
        subst h2
        rw [setB_other e]; exact h.fin y hy z hq h0
    · subst h2; exact absurd h0 h1
  · intro u hu
    rw [← sub_sub, flat_sub' s (u.sub σ) (sub_ok h.sok u hu)]
    refine fill_len_le (flat_pos _) fun y hy h0 => ?_
    by_cases e : y = x
    · rw [e, sx]; exact Nat.le_refl _
    · rw [so y e, vr_flat]; exact flat_pos _
theorem sol_bind (hb : b x = none) : Sol θ (setB b x t) ↔ Sol θ b ∧ θ x = t.sub θ := by
  constructor
  · intro h
    refine ⟨fun y t' hy => h y t' ?_, h x t (setB_same _ _ _)⟩
    rw [setB_other fun e => by rw [e, hb] at hy; cases hy]; exact hy
  · rintro ⟨h1, h2⟩ y t' hy
    by_cases e : y = x
    · rw [e, setB_same] at hy; cases hy; rw [e]; exact h2
    · rw [setB_other e] at hy; exact h1 y t' hy
/-- A variable never becomes a greater term in which it stands. -/
theorem Tri.occ (h : Tri ar b σ r) (hx : x < 0) {f : Int} {as : List Tm} (hf : ¬ f < 0) (ht : (Tm.node f as).Ok ar) (hm : x ∈ ((Tm.node f as).sub σ).flat) (hs : Sol θ b) : θ x ≠ (Tm.node f as).sub θ := by
  intro e
  have h1 : (θ x).flat.length < ((Tm.node f as).sub θ).flat.length := by
    rw [← h.full hs ht, sub_sym hf, sub_sym hf, flat_node, List.length_cons]
    have hl : OkL ar (subL σ as) := subL_ok h.sok as (Ok_node.1 ht).2
    rw [flatL_sub θ _ hl]
    rw [sub_sym hf, flat_node] at hm
    rcases List.mem_cons.1 hm with e | hm
    · omega
    · have := fill_len_ge (h := fun y => (θ y).flat) hx hm
      show (θ x).flat.length < _
      omega
  rw [e] at h1; omega
end
/-- How many variables have nothing. -/
def cnt (b : Int → Option Tm) : Nat := ((List.range 48).filter fun k : Nat => (b (-1 - (k : Int))).isNone).length
theorem filter_lt {α : Type} {p q : α → Bool} {a : α} (hpq : ∀ c, p c = true → q c = true) (h1 : q a = true) (h2 : p a = false) : ∀ {l : List α}, a ∈ l → (l.filter p).length < (l.filter q).length
  | c :: l, hm => by
    have hle : ∀ l : List α, (l.filter p).length ≤ (l.filter q).length := by
      intro l
      induction l with
      | nil => exact Nat.le_refl _
      | cons d l ih =>
        rw [List.filter_cons, List.filter_cons]
        by_cases hp : p d = true
        · rw [if_pos hp, if_pos (hpq d hp)]; simp only [List.length_cons]; omega
        · rw [if_neg hp]
          by_cases hq : q d = true
          · rw [if_pos hq]; simp only [List.length_cons]; omega
          · rw [if_neg hq]; exact ih
    rw [List.filter_cons, List.filter_cons]
    rcases List.mem_cons.1 hm with rfl | hm
    · rw [if_neg (by rw [h2]; decide), if_pos h1]; simp only [List.length_cons]
      have := hle l; omega
    · have ih := filter_lt hpq h1 h2 hm
      by_cases hp : p c = true
      · rw [if_pos hp, if_pos (hpq c hp)]; simp only [List.length_cons]; omega
      · rw [if_neg hp]
        by_cases hq : q c = true
        · rw [if_pos hq]; simp only [List.length_cons]; omega
        · rw [if_neg hq]; exact ih
theorem cnt_set {b : Int → Option Tm} {x : Int} {t : Tm} (hx : x < 0) (h48 : -48 ≤ x) (hb : b x = none) : cnt (setB b x t) < cnt b := by
  unfold cnt
  refine filter_lt (a := (-1 - x).toNat) (fun k hk => ?_) ?_ ?_ (List.mem_range.2 (by omega))
  · unfold setB at hk
    by_cases e : -1 - (k : Int) = x
    · rw [if_pos e] at hk; cases hk
    · rw [if_neg e] at hk; exact hk
  · rw [show (-1 - ((-1 - x).toNat : Int)) = x by omega, hb]; rfl
  · rw [show (-1 - ((-1 - x).toNat : Int)) = x by omega, setB_same]; rfl

/-- Arguments of one symbol. -/
theorem args_sub {θ : Int → Tm} {f : Int} {as bs : List Tm} (hf : ¬ f < 0) (hl : as.length = bs.length) :
    (Tm.node f as).sub θ = (Tm.node f bs).sub θ ↔ ∀ (j : Nat) (a c : Tm), as[j]? = some a → bs[j]? = some c → a.sub θ = c.sub θ := by
  rw [sub_sym hf, sub_sym hf, subL_map, subL_map]
  constructor
  · intro h j a c ha hc
    injection h with _ h
    have h1 : (as.map (Tm.sub θ))[j]? = (bs.map (Tm.sub θ))[j]? := by rw [h]
    rw [List.getElem?_map, List.getElem?_map, ha, hc] at h1
    exact Option.some.inj h1
  · intro h
    congr 1
    apply List.ext_getElem?
    intro j
    rw [List.getElem?_map, List.getElem?_map]
    rcases Nat.lt_or_ge j as.length with hj | hj
    · rw [List.getElem?_eq_getElem hj, List.getElem?_eq_getElem (hl ▸ hj)]
      exact congrArg some (h j _ _ (List.getElem?_eq_getElem hj) (List.getElem?_eq_getElem (hl ▸ hj)))
    · rw [List.getElem?_eq_none hj, List.getElem?_eq_none (hl ▸ hj)]
theorem clash_sub {θ : Int → Tm} {f g : Int} {as bs : List Tm} (hf : ¬ f < 0) (hg : ¬ g < 0) (h : f ≠ g) : (Tm.node f as).sub θ ≠ (Tm.node g bs).sub θ := by
  rw [sub_sym hf, sub_sym hg]
  intro e; injection e with e _; exact h e

/-- Two terms can be made one. -/
noncomputable def uniB (s t : Tm) : Bool := @decide (∃ θ : Int → Tm, s.sub θ = t.sub θ) (Classical.propDecidable _)
theorem uniB_t {s t : Tm} {θ : Int → Tm} (h : s.sub θ = t.sub θ) : uniB s t = true := by simp only [uniB, decide_eq_true_eq]; exact ⟨θ, h⟩
theorem uniB_f {s t : Tm} (h : ∀ θ : Int → Tm, s.sub θ ≠ t.sub θ) : uniB s t = false := by simp only [uniB, decide_eq_false_iff_not]; rintro ⟨θ, e⟩; exact h θ e

/-- A term is told of by what is marked: the variable does not stand in it, and each of its variables is marked or has nothing. -/
def Dn (b : Int → Option Tm) (x : Int) (m : Int → Bool) (t : Tm) : Prop := ∀ y ∈ t.flat, y ≠ x ∧ (y < 0 → b y = none ∨ m y = true)
/-- Where all that is marked is told of, the variable is not reached. -/
theorem Tri.clo {ar : List Int} {b : Int → Option Tm} {σ : Int → Tm} {r : Int → Nat} (h : Tri ar b σ r) {x : Int} (hx : x < 0) {m : Int → Bool} (hm : ∀ y t, m y = true → b y = some t → Dn b x m t) {t : Tm} (ht : t.Ok ar) (hd : Dn b x m t) : x ∉ (t.sub σ).flat := by
  have key : ∀ n (y : Int), r y < n → y < 0 → y ≠ x → (b y = none ∨ m y = true) → x ∉ (σ y).flat := by
    intro n
    induction n with
    | zero => intro y hn; omega
    | succ n ih =>
      intro y hn hy hyx hor hq
      rcases hb : b y with _ | t'
      · rw [h.unb y hy hb, vr_flat, List.mem_singleton] at hq; exact hyx hq.symm
      · have hmy : m y = true := by rcases hor with e | e; (rw [hb] at e; cases e); exact e
        rw [h.bnd y t' hb] at hq
        obtain ⟨z, hz, ⟨h1, h2⟩ | ⟨h1, h2⟩⟩ := (mem_sub (h.ok y t' hb)).1 hq
        · obtain ⟨h3, h4⟩ := hm y t' hmy hb z hz
          exact ih z (by have := h.lt y t' hb z hz h1; omega) h1 h3 (h4 h1) h2
        · subst h2; exact h1 hx
  intro hq
  obtain ⟨z, hz, ⟨h1, h2⟩ | ⟨h1, h2⟩⟩ := (mem_sub ht).1 hq
  · obtain ⟨h3, h4⟩ := hd z hz
    exact key _ z (Nat.lt_succ_self _) h1 h3 (h4 h1) h2
  · subst h2; exact h1 hx
/-- How many variables are not marked. -/
def ucnt (m : Int → Bool) : Nat := ((List.range 48).filter fun k : Nat => !m (-1 - (k : Int))).length
def setM (m : Int → Bool) (x : Int) : Int → Bool := fun y => if y = x then true else m y
theorem setM_same (m : Int → Bool) (x : Int) : setM m x x = true := if_pos rfl
theorem setM_other {m : Int → Bool} {x y : Int} (h : y ≠ x) : setM m x y = m y := if_neg h
theorem setM_le {m : Int → Bool} {x y : Int} (h : m y = true) : setM m x y = true := by unfold setM; by_cases e : y = x; (rw [if_pos e]); rw [if_neg e]; exact h
theorem ucnt_set {m : Int → Bool} {x : Int} (hx : x < 0) (h48 : -48 ≤ x) (hm : m x = false) : ucnt (setM m x) < ucnt m := by
  unfold ucnt
  refine filter_lt (a := (-1 - x).toNat) (fun k hk => ?_) ?_ ?_ (List.mem_range.2 (by omega))
  · unfold setM at hk
    by_cases e : -1 - (k : Int) = x
    · rw [if_pos e] at hk; cases hk
    · rw [if_neg e] at hk; exact hk
  · rw [show (-1 - ((-1 - x).toNat : Int)) = x by omega, hm]; rfl
  · rw [show (-1 - ((-1 - x).toNat : Int)) = x by omega, setM_same]; rfl

/-- Rounds to come at most: so many variables that have nothing, so long all that is left. -/
def muU : Nat → Nat → Nat
  | 0, S => S
  | c + 1, S => S + 1 + muU c (S * S)
theorem muU_lt : ∀ {c S S' : Nat}, S < S' → muU c S < muU c S'
  | 0, S, S', h => h
  | c + 1, S, S', h => by
    have h1 : S * S < S' * S' := Nat.mul_lt_mul_of_lt_of_lt h h
    have := muU_lt (c := c) h1
    simp only [muU]; omega
theorem muU_le {c S S' : Nat} (h : S ≤ S') : muU c S ≤ muU c S' := by
  rcases Nat.lt_or_ge S S' with h1 | h1
  · exact Nat.le_of_lt (muU_lt h1)
  · rw [Nat.le_antisymm h h1]; exact Nat.le_refl _
theorem muU_succ (c S : Nat) (hS : 1 ≤ S) : muU c S ≤ muU (c + 1) S := by
  have h1 : S ≤ S * S := Nat.le_mul_of_pos_left S hS
  have := muU_le (c := c) h1
  simp only [muU]; omega
theorem muU_mono {S : Nat} (hS : 1 ≤ S) : ∀ {c c' : Nat}, c ≤ c' → muU c S ≤ muU c' S
  | c, 0, h => by obtain rfl : c = 0 := by omega
                  exact Nat.le_refl _
  | c, c' + 1, h => by
    rcases Nat.lt_or_ge c (c' + 1) with h1 | h1
    · exact Nat.le_trans (muU_mono hS (by omega)) (muU_succ c' S hS)
    · rw [Nat.le_antisymm h h1]; exact Nat.le_refl _
theorem muU_bind {c c' S S' : Nat} (hS : 1 ≤ S) (hc : c' < c) (h : S' ≤ S * S) : muU c' S' < muU c S := by
  obtain ⟨k, rfl⟩ : ∃ k, c = k + 1 := ⟨c - 1, by omega⟩
  have h1 := muU_le (c := c') h
  have h2 := muU_mono (S := S * S) (Nat.mul_pos hS hS) (c := c') (c' := k) (by omega)
  simp only [muU]; omega

/-! Plain: the reference's way of making two terms one: a stack of pairs, how long it gets; a search by a list of what is to come. -/
/-- What a term leads to by what variables have. -/
inductive Lead (b : Int → Option Tm) : Tm → Tm → Prop
  | here (u : Tm) : Lead b u u
  | var {x : Int} {t v : Tm} : x < 0 → b x = some t → Lead b t v → Lead b (vr x) v
theorem Lead.snoc {b : Int → Option Tm} {u v t : Tm} {x : Int} (h : Lead b u v) : v = vr x → x < 0 → b x = some t → Lead b u t := by
  induction h with
  | here u => intro e hx hb; subst e; exact .var hx hb (.here _)
  | var h1 h2 _ ih => intro e hx hb; exact .var h1 h2 (ih e hx hb)
theorem Lead.mono {b b' : Int → Option Tm} (hm : ∀ x t, b x = some t → b' x = some t) {u v : Tm} (h : Lead b u v) : Lead b' u v := by
  induction h with
  | here u => exact .here u
  | var h1 h2 _ ih => exact .var h1 (hm _ _ h2) ih
theorem setB_mono {b : Int → Option Tm} {x : Int} {t : Tm} (hb : b x = none) : ∀ y u, b y = some u → setB b x t y = some u := fun y u h => by
  rw [setB_other fun e => by rw [e, hb] at h; cases h]; exact h
theorem Lead.size {b : Int → Option Tm} (h60 : ∀ x t, b x = some t → t.flat.length ≤ 60) {u v : Tm} (h : Lead b u v) : u.flat.length ≤ 60 → v.flat.length ≤ 60 := by
  induction h with
  | here u => exact fun h => h
  | var _ h2 _ ih => exact fun _ => ih (h60 _ _ h2)
def kids : Tm → List Tm
  | .node _ us => us
theorem kids_node (x : Int) (us : List Tm) : kids (.node x us) = us := rfl
/-- From a term to what an argument of it leads to. -/
def StepU (b : Int → Option Tm) (n n' : Tm) : Prop := ∃ c ∈ kids n, Lead b c n'
theorem StepU.mono {b b' : Int → Option Tm} (hm : ∀ x t, b x = some t → b' x = some t) {n n' : Tm} (h : StepU b n n') : StepU b' n n' := by
  obtain ⟨c, h1, h2⟩ := h; exact ⟨c, h1, h2.mono hm⟩

/-- A rank of at most 48. -/
def rk (r : Int → Nat) (x : Int) : Nat := ((List.range 48).filter fun k : Nat => decide (r (-1 - (k : Int)) < r x)).length
theorem rk_le (r : Int → Nat) (x : Int) : rk r x ≤ 48 := by
  unfold rk
  refine Nat.le_trans (List.length_filter_le _ _) ?_
  simp
theorem rk_lt {r : Int → Nat} {x y : Int} (hy : y < 0) (h48 : -48 ≤ y) (h : r y < r x) : rk r y < rk r x := by
  unfold rk
  refine filter_lt (a := (-1 - y).toNat) (fun k hk => ?_) ?_ ?_ (List.mem_range.2 (by omega))
  · simp only [decide_eq_true_eq] at hk ⊢; omega
  · rw [show (-1 - ((-1 - y).toNat : Int)) = y by omega]; simpa using h
  · rw [show (-1 - ((-1 - y).toNat : Int)) = y by omega]; simp
/-- The greatest rank of what stands in a list, and 1. -/
def mx (r : Int → Nat) : List Int → Nat
  | [] => 0
  | y :: l => max (if y < 0 then rk r y + 1 else 0) (mx r l)
theorem mx_mem {r : Int → Nat} {y : Int} (hy : y < 0) : ∀ {l : List Int}, y ∈ l → rk r y + 1 ≤ mx r l
  | z :: l, h => by
    simp only [mx]
    rcases List.mem_cons.1 h with rfl | h
    · rw [if_pos hy]; exact Nat.le_max_left _ _
    · exact Nat.le_trans (mx_mem hy h) (Nat.le_max_right _ _)
theorem mx_le {r : Int → Nat} {M : Nat} : ∀ {l : List Int}, (∀ y ∈ l, y < 0 → rk r y + 1 ≤ M) → mx r l ≤ M
  | [], _ => Nat.zero_le _
  | z :: l, h => by
    simp only [mx]
    refine Nat.max_le.2 ⟨?_, mx_le fun y hy => h y (List.mem_cons_of_mem _ hy)⟩
    by_cases h0 : z < 0
    · rw [if_pos h0]; exact h z List.mem_cons_self h0
    · rw [if_neg h0]; omega
def dm (r : Int → Nat) (u : Tm) : Nat := 61 * mx r u.flat + u.flat.length
theorem dm_le {r : Int → Nat} {u : Tm} (h : u.flat.length ≤ 60) : dm r u ≤ 3049 := by
  unfold dm
  have := mx_le (r := r) (M := 49) (l := u.flat) (fun y _ _ => by have := rk_le r y; omega)
  omega
section
variable {ar : List Int} {b : Int → Option Tm} {σ : Int → Tm} {r : Int → Nat}
theorem Tri.lead (h : Tri ar b σ r) {u v : Tm} (hl : Lead b u v) : ∀ ρ, (∀ y ∈ u.flat, y < 0 → rk r y < ρ) → ∀ y ∈ v.flat, y < 0 → rk r y < ρ := by
  induction hl with
  | here u => exact fun _ h => h
  | @var x t v h1 h2 _ ih =>
    intro ρ hu
    refine ih ρ fun y hy h0 => ?_
    have h3 := hu x (by rw [vr_flat]; simp) h1
    have := rk_lt h0 (h.dom x t h2 y hy) (h.lt x t h2 y hy h0)
    omega
theorem mem_flatS {us : List Tm} {a : Tm} (h : a ∈ us) : ∀ y ∈ a.flat, y ∈ flatL us := by
  induction us with
  | nil => cases h
  | cons c us ih =>
    intro y hy
    rw [flatL_cons]
    rcases List.mem_cons.1 h with rfl | h
    · exact List.mem_append_left _ hy
    · exact List.mem_append_right _ (ih h y hy)
theorem kid_mem {n c : Tm} (hc : c ∈ kids n) : (∀ y ∈ c.flat, y ∈ n.flat) ∧ c.flat.length < n.flat.length := by
  obtain ⟨x, us⟩ := n
  have hc : c ∈ us := hc
  rw [flat_node, List.length_cons]
  exact ⟨fun y hy => List.mem_cons_of_mem _ (mem_flatS hc y hy), by have := mem_flatL_len hc; omega⟩
theorem Tri.step_dm (h : Tri ar b σ r) (h60 : ∀ x t, b x = some t → t.flat.length ≤ 60) {n n' : Tm} (hs : StepU b n n') : dm r n' < dm r n := by
  obtain ⟨c, hc, hl⟩ := hs
  obtain ⟨h1, h2⟩ := kid_mem hc
  unfold dm
  cases hl with
  | here =>
    have := mx_le (r := r) (M := mx r n.flat) (l := n'.flat) (fun y hy h0 => mx_mem h0 (h1 y hy))
    omega
  | @var x t _ h3 h4 h5 =>
    have h6 := mx_mem (r := r) h3 (h1 x (by rw [vr_flat]; simp))
    have h7 := mx_le (r := r) (M := rk r x) (l := n'.flat) (fun y hy h0 => h.lead h5 (rk r x) (fun z hz hz0 => rk_lt hz0 (h.dom x t h4 z hz) (h.lt x t h4 z hz hz0)) y hy h0)
    have h8 := h5.size h60 (h60 x t h4)
    omega
end
/-- A stack, and the terms whose arguments it holds. -/
inductive Stk (b : Int → Option Tm) : List Tm → List Tm → Prop
  | root {L : List Tm} : L.length ≤ 1 → Stk b [] L
  | push {n : Tm} {ch L G : List Tm} : Stk b ch L → (∀ n', ch.head? = some n' → StepU b n' n) → n.flat.length ≤ 60 → G.length ≤ 3 → (∀ e ∈ G, e ∈ kids n) → Stk b (n :: ch) (L ++ G)
theorem Stk.mono {b b' : Int → Option Tm} (hm : ∀ x t, b x = some t → b' x = some t) {ch L : List Tm} (h : Stk b ch L) : Stk b' ch L := by
  induction h with
  | root h => exact .root h
  | push _ h1 h2 h3 h4 ih => exact .push ih (fun n' e => (h1 n' e).mono hm) h2 h3 h4
theorem Stk.pop' {b : Int → Option Tm} {ch X : List Tm} (h : Stk b ch X) : ∀ (L : List Tm) (e : Tm), X = L ++ [e] → ∃ ch', Stk b ch' L ∧ ∀ n', ch'.head? = some n' → e ∈ kids n' := by
  induction h with
  | root h =>
    intro L e hX
    subst hX
    refine ⟨[], .root (by simp only [List.length_append, List.length_cons, List.length_nil] at h; omega), fun n' h => by cases h⟩
  | @push n ch L0 G h h1 h2 h3 h4 ih =>
    intro L e hX
    rcases List.eq_nil_or_concat G with rfl | ⟨G', e', rfl⟩
    · rw [List.append_nil] at hX; exact ih L e hX
    · rw [List.concat_eq_append, ← List.append_assoc] at hX
      obtain ⟨e1, e2⟩ := List.append_inj' hX rfl
      cases e2
      refine ⟨n :: ch, ?_, fun n' e => by cases e; exact h4 _ (by simp)⟩
      rw [← e1]
      exact .push h h1 h2 (by simp at h3; omega) (fun e he => h4 e (by simp [he]))
theorem Stk.pop {b : Int → Option Tm} {ch L : List Tm} {e : Tm} (h : Stk b ch (L ++ [e])) : ∃ ch', Stk b ch' L ∧ ∀ n', ch'.head? = some n' → e ∈ kids n' := h.pop' L e rfl
theorem Stk.len {b : Int → Option Tm} {ch L : List Tm} (h : Stk b ch L) : L.length ≤ 1 + 3 * ch.length := by
  induction h with
  | root h => simpa using h
  | push _ _ _ h3 _ ih => simp only [List.length_append, List.length_cons]; omega
theorem Stk.short {ar : List Int} {b : Int → Option Tm} {σ : Int → Tm} {r : Int → Nat} (hT : Tri ar b σ r) (h60 : ∀ x t, b x = some t → t.flat.length ≤ 60) {ch L : List Tm} (h : Stk b ch L) : L.length ≤ 9151 := by
  have key : ch.length ≤ 3050 ∧ ∀ n, ch.head? = some n → ch.length + dm r n ≤ 3050 := by
    induction h with
    | root h => exact ⟨by simp, fun n h => by cases h⟩
    | @push n ch L G h h1 h2 h3 h4 ih =>
      have h5 : ∀ m, (n :: ch).head? = some m → (n :: ch).length + dm r m ≤ 3050 := by
        intro m e
        cases e
        cases ch with
        | nil => have := dm_le (r := r) h2; simp only [List.length_cons, List.length_nil]; omega
        | cons n' ch =>
          have h6 := ih.2 n' rfl
          have h7 := hT.step_dm h60 (h1 n' rfl)
          simp only [List.length_cons] at h6 ⊢; omega
      refine ⟨?_, h5⟩
      have := h5 n rfl; omega
  have := h.len
  omega

/-- The sizes of what is to be made one, filled to the end. -/
def szU (σ : Int → Tm) (L : List Tm) : Nat := (L.map fun u => (u.sub σ).flat.length).sum
theorem szU_append (σ : Int → Tm) (L M : List Tm) : szU σ (L ++ M) = szU σ L + szU σ M := by unfold szU; simp
theorem szU_one (σ : Int → Tm) (u : Tm) : szU σ [u] = (u.sub σ).flat.length := by unfold szU; simp
theorem szU_le {σ σ' : Int → Tm} {M : Nat} : ∀ {L : List Tm}, (∀ u ∈ L, (u.sub σ').flat.length ≤ (u.sub σ).flat.length * M) → szU σ' L ≤ szU σ L * M
  | [], _ => by simp [szU]
  | u :: L, h => by
    have h1 := h u List.mem_cons_self
    have h2 := szU_le fun v hv => h v (List.mem_cons_of_mem _ hv)
    unfold szU at h2 ⊢
    simp only [List.map_cons, List.sum_cons]
    rw [Nat.add_mul]; omega
theorem szU_args {σ : Int → Tm} {x : Int} {us : List Tm} (hx : ¬ x < 0) : szU σ us < ((Tm.node x us).sub σ).flat.length := by
  rw [sub_sym hx, flat_node, List.length_cons]
  have : szU σ us = (flatL (subL σ us)).length := by
    induction us with
    | nil => rw [subL_nil, flatL_nil]; rfl
    | cons u us ih => rw [subL_cons, flatL_cons, List.length_append, ← ih]; unfold szU; simp
  omega
/-- All pairs are made one. -/
def AllEq (θ : Int → Tm) (L R : List Tm) : Prop := L.map (Tm.sub θ) = R.map (Tm.sub θ)
theorem allEq_pop {θ : Int → Tm} {L R : List Tm} {u v : Tm} (h : L.length = R.length) : AllEq θ (L ++ [u]) (R ++ [v]) ↔ AllEq θ L R ∧ u.sub θ = v.sub θ := by
  unfold AllEq
  rw [List.map_append, List.map_append]
  constructor
  · intro e
    obtain ⟨e1, e2⟩ := List.append_inj e (by simp [h])
    exact ⟨e1, by simpa using e2⟩
  · rintro ⟨e1, e2⟩
    rw [e1]; simp [e2]
theorem allEq_append {θ : Int → Tm} {L R L' R' : List Tm} (h : L.length = R.length) : AllEq θ (L ++ L') (R ++ R') ↔ AllEq θ L R ∧ AllEq θ L' R' := by
  unfold AllEq
  rw [List.map_append, List.map_append]
  constructor
  · intro e
    exact List.append_inj e (by simp [h])
  · rintro ⟨e1, e2⟩
    rw [e1, e2]
theorem allEq_args {θ : Int → Tm} {x : Int} {us ss : List Tm} (hx : ¬ x < 0) : AllEq θ us ss ↔ (Tm.node x us).sub θ = (Tm.node x ss).sub θ := by
  unfold AllEq
  rw [sub_sym hx, sub_sym hx, subL_map, subL_map]
  constructor
  · intro e; rw [e]
  · intro e; injection e

/-- What is marked is to come or told of; what is to come matters. -/
structure OccI (ar : List Int) (b : Int → Option Tm) (σ : Int → Tm) (x : Int) (t : Tm) (m : Int → Bool) (todo : List Tm) : Prop where
  mr : ∀ y u, m y = true → b y = some u → u ∈ todo ∨ Dn b x m u
  st : t ∈ todo ∨ Dn b x m t
  ok : ∀ u ∈ todo, u.Ok ar ∧ ∀ y ∈ u.flat, -48 ≤ y
  so : ∀ u ∈ todo, x ∈ (u.sub σ).flat → x ∈ (t.sub σ).flat
  ln : todo.length + ucnt m ≤ 49
/-- The same inside of a term, told of up to a place. -/
structure OccJ (ar : List Int) (b : Int → Option Tm) (σ : Int → Tm) (x : Int) (t : Tm) (m : Int → Bool) (todo : List Tm) (u : Tm) (k : Nat) : Prop where
  mr : ∀ y v, m y = true → b y = some v → v ∈ todo ∨ v = u ∨ Dn b x m v
  st : t ∈ todo ∨ t = u ∨ Dn b x m t
  ok : ∀ v ∈ todo, v.Ok ar ∧ ∀ y ∈ v.flat, -48 ≤ y
  so : ∀ v ∈ todo, x ∈ (v.sub σ).flat → x ∈ (t.sub σ).flat
  ln : todo.length + ucnt m ≤ 48
  up : ∀ (j : Nat) (y : Int), j < k → u.flat[j]? = some y → y ≠ x ∧ (y < 0 → b y = none ∨ m y = true)
section
variable {ar : List Int} {b : Int → Option Tm} {σ : Int → Tm} {r : Int → Nat} {x : Int} {t u : Tm} {m : Int → Bool} {todo : List Tm} {k : Nat}
theorem ucnt_all : ucnt (fun _ => false) = 48 := by decide
theorem OccI.start (ht : t.Ok ar) (hd : ∀ y ∈ t.flat, -48 ≤ y) : OccI ar b σ x t (fun _ => false) [t] :=
  ⟨(fun y u h => nomatch h), .inl (by simp), fun u hu => by simp at hu; subst hu; exact ⟨ht, hd⟩, fun u hu => by simp at hu; subst hu; exact id, by rw [ucnt_all]; simp⟩
theorem OccI.done (h : Tri ar b σ r) (hx : x < 0) (ht : t.Ok ar) (hI : OccI ar b σ x t m []) : x ∉ (t.sub σ).flat :=
  h.clo hx (fun y u hm hb => (hI.mr y u hm hb).resolve_left (by simp)) ht (hI.st.resolve_left (by simp))
theorem OccI.take (h : OccI ar b σ x t m (todo ++ [u])) : OccJ ar b σ x t m todo u 0 :=
  ⟨fun y v hm hb => by rcases h.mr y v hm hb with h1 | h1; (rcases List.mem_append.1 h1 with h2 | h2; (exact .inl h2); (simp at h2; exact .inr (.inl h2))); exact .inr (.inr h1), by rcases h.st with h1 | h1; (rcases List.mem_append.1 h1 with h2 | h2; (exact .inl h2); (simp at h2; exact .inr (.inl h2))); exact .inr (.inr h1), fun v hv => h.ok v (by simp [hv]), fun v hv => h.so v (by simp [hv]), by have := h.ln; simp at this; omega, fun j y hj => by omega⟩
theorem OccJ.skip {y : Int} (h : OccJ ar b σ x t m todo u k) (hy : u.flat[k]? = some y) (h1 : y ≠ x) (h2 : y < 0 → b y = none ∨ m y = true) : OccJ ar b σ x t m todo u (k + 1) :=
  ⟨h.mr, h.st, h.ok, h.so, h.ln, fun j z hj hz => by
    rcases Nat.lt_or_ge j k with e | e
    · exact h.up j z e hz
    · obtain rfl : j = k := by omega
      rw [hy] at hz; cases hz; exact ⟨h1, h2⟩⟩
theorem OccJ.push {y : Int} {v : Tm} (h : OccJ ar b σ x t m todo u k) (hT : Tri ar b σ r) (hu : u.Ok ar) (hux : x ∈ (u.sub σ).flat → x ∈ (t.sub σ).flat) (hy : u.flat[k]? = some y) (h1 : y ≠ x) (hy0 : y < 0) (h48 : -48 ≤ y) (hm : m y = false) (hb : b y = some v) : OccJ ar b σ x t (setM m y) (todo ++ [v]) u (k + 1) := by
  have hd : ∀ w : Tm, Dn b x m w → Dn b x (setM m y) w := fun w hw z hz => ⟨(hw z hz).1, fun h0 => ((hw z hz).2 h0).imp id (fun e => setM_le e)⟩
  refine ⟨fun z w hz hbz => ?_, ?_, fun w hw => ?_, fun w hw => ?_, ?_, fun j z hj hz => ?_⟩
  · by_cases e : z = y
    · subst e; rw [hb] at hbz; cases hbz; exact .inl (by simp)
    · rw [setM_other e] at hz
      rcases h.mr z w hz hbz with h3 | h3 | h3
      · exact .inl (by simp [h3])
      · exact .inr (.inl h3)
      · exact .inr (.inr (hd w h3))
  · rcases h.st with h3 | h3 | h3
    · exact .inl (by simp [h3])
    · exact .inr (.inl h3)
    · exact .inr (.inr (hd t h3))
  · rcases List.mem_append.1 hw with hw | hw
    · exact h.ok w hw
    · simp at hw; subst hw; exact ⟨hT.ok y _ hb, hT.dom y _ hb⟩
  · rcases List.mem_append.1 hw with hw | hw
    · exact h.so w hw
    · simp at hw; subst hw
      exact fun hq => hux ((mem_sub hu).2 ⟨y, List.mem_of_getElem? hy, .inl ⟨hy0, by rw [hT.bnd y _ hb]; exact hq⟩⟩)
  · have := ucnt_set hy0 h48 hm
    have := h.ln
    simp; omega
  · by_cases e : j = k
    · subst e; rw [hy] at hz; cases hz; exact ⟨h1, fun _ => .inr (setM_same _ _)⟩
    · obtain ⟨h3, h4⟩ := h.up j z (by omega) hz
      exact ⟨h3, fun h0 => (h4 h0).imp id (fun e => setM_le e)⟩
theorem OccJ.all (h : OccJ ar b σ x t m todo u u.flat.length) : OccI ar b σ x t m todo := by
  have hu : Dn b x m u := fun y hy => by
    obtain ⟨j, hj, e⟩ := List.mem_iff_getElem.1 hy
    exact h.up j y hj (by rw [List.getElem?_eq_getElem hj, e])
  refine ⟨fun y v hm hb => ?_, ?_, h.ok, h.so, by have := h.ln; omega⟩
  · rcases h.mr y v hm hb with h3 | h3 | h3
    · exact .inl h3
    · subst h3; exact .inr hu
    · exact .inr h3
  · rcases h.st with h3 | h3 | h3
    · exact .inl h3
    · subst h3; exact .inr hu
    · exact .inr h3
theorem occ_here (hT : Tri ar b σ r) (hx : x < 0) (hbx : b x = none) (hu : u.Ok ar) (hm : x ∈ u.flat) : x ∈ (u.sub σ).flat :=
  (mem_sub hu).2 ⟨x, hm, .inl ⟨hx, by rw [hT.unb x hx hbx, vr_flat]; simp⟩⟩
end

/-! Plain: the steps of making two terms one by a stack of pairs. -/
/-- What is left to be made one. -/
structure MeetS (ar : List Int) (b : Int → Option Tm) (σ : Int → Tm) (r : Int → Nat) (ch : List Tm) (s t : Tm) (L R : List Tm) : Prop where
  tri : Tri ar b σ r
  h60 : ∀ x t, b x = some t → t.flat.length ≤ 60
  stk : Stk b ch L
  len : L.length = R.length
  l60 : ∀ u ∈ L, u.flat.length ≤ 60
  r60 : ∀ u ∈ R, u.flat.length ≤ 60
  sol : ∀ θ, (Sol θ b ∧ AllEq θ L R) ↔ s.sub θ = t.sub θ
def meas (b : Int → Option Tm) (σ : Int → Tm) (L R : List Tm) : Nat := muU (cnt b) (szU σ L + szU σ R)
/-- A term and what it leads to. -/
structure HeadU (b : Int → Option Tm) (u h : Tm) (x : Int) : Prop where
  rt : ∀ θ, Sol θ b → u.sub θ = h.sub θ
  ld : Lead b u h
  fr : x < 0 → b x = none
section
variable {ar : List Int} {b : Int → Option Tm} {σ : Int → Tm} {r : Int → Nat} {ch : List Tm} {s t u v : Tm} {L R : List Tm} {x y : Int} {us ss : List Tm}
theorem MeetS.start (hs : s.flat.length ≤ 60) (ht : t.flat.length ≤ 60) : MeetS ar (fun _ => none) vr (fun _ => 0) [] s t [s] [t] :=
  ⟨Tri.start ar, (fun _ _ h => nomatch h), .root (by simp), rfl, fun u hu => by simp at hu; subst hu; exact hs, fun u hu => by simp at hu; subst hu; exact ht, fun θ => by
    unfold AllEq
    constructor
    · rintro ⟨_, h⟩; simpa using h
    · intro h; exact ⟨(fun _ _ h => nomatch h), by simp [h]⟩⟩
theorem MeetS.done (h : MeetS ar b σ r ch s t [] []) : uniB s t = true := uniB_t ((h.sol σ).1 ⟨h.tri.sol, rfl⟩)
theorem MeetS.short (h : MeetS ar b σ r ch s t L R) : L.length ≤ 9151 := h.stk.short h.tri h.h60
theorem MeetS.pop (h : MeetS ar b σ r ch s t (L ++ [u]) (R ++ [v])) : L.length = R.length := by have := h.len; simp at this; exact this
theorem MeetS.no (h : MeetS ar b σ r ch s t (L ++ [u]) (R ++ [v])) (hn : ∀ θ, Sol θ b → u.sub θ ≠ v.sub θ) : uniB s t = false :=
  uniB_f fun θ e => by
    obtain ⟨h1, h2⟩ := (h.sol θ).2 e
    exact hn θ h1 ((allEq_pop h.pop).1 h2).2
theorem MeetS.clash (h : MeetS ar b σ r ch s t (L ++ [u]) (R ++ [v])) (hu : HeadU b u (.node x us) x) (hv : HeadU b v (.node y ss) y) (hx : ¬ x < 0) (hy : ¬ y < 0) (hxy : x ≠ y) : uniB s t = false :=
  h.no fun θ hθ e => clash_sub hx hy hxy (by rw [← hu.rt θ hθ, ← hv.rt θ hθ]; exact e)
theorem MeetS.occL (h : MeetS ar b σ r ch s t (L ++ [u]) (R ++ [v])) (hu : HeadU b u (.node x us) x) (hv : HeadU b v (.node y ss) y) (ou : (Tm.node x us).Ok ar) (ov : (Tm.node y ss).Ok ar) (hx : x < 0) (hxy : x ≠ y) (hm : x ∈ ((Tm.node y ss).sub σ).flat) : uniB s t = false := by
  have hy : ¬ y < 0 := fun hy => by
    rw [ok_var ov hy, vr_sub hy, h.tri.unb y hy (hv.fr hy), vr_flat, List.mem_singleton] at hm
    exact hxy hm
  exact h.no fun θ hθ e => h.tri.occ hx hy ov hm hθ (by rw [← hv.rt θ hθ, ← e, hu.rt θ hθ, ok_var ou hx, vr_sub hx])
theorem MeetS.occR (h : MeetS ar b σ r ch s t (L ++ [u]) (R ++ [v])) (hu : HeadU b u (.node x us) x) (hv : HeadU b v (.node y ss) y) (ou : (Tm.node x us).Ok ar) (ov : (Tm.node y ss).Ok ar) (hx : ¬ x < 0) (hy : y < 0) (hm : y ∈ ((Tm.node x us).sub σ).flat) : uniB s t = false :=
  h.no fun θ hθ e => h.tri.occ hy hx ou hm hθ (by rw [← hu.rt θ hθ, e, hv.rt θ hθ, ok_var ov hy, vr_sub hy])
theorem MeetS.size (h : MeetS ar b σ r ch s t (L ++ [u]) (R ++ [v])) (hu : HeadU b u (.node x us) x) (hv : HeadU b v (.node y ss) y) :
    szU σ (L ++ [u]) + szU σ (R ++ [v]) = szU σ L + szU σ R + ((Tm.node x us).sub σ).flat.length + ((Tm.node y ss).sub σ).flat.length := by
  rw [szU_append, szU_append, szU_one, szU_one, hu.rt σ h.tri.sol, hv.rt σ h.tri.sol]; omega
theorem MeetS.rest (h : MeetS ar b σ r ch s t (L ++ [u]) (R ++ [v])) : (∀ e ∈ L, e.flat.length ≤ 60) ∧ (∀ e ∈ R, e.flat.length ≤ 60) := ⟨fun e he => h.l60 e (by simp [he]), fun e he => h.r60 e (by simp [he])⟩
theorem MeetS.same (h : MeetS ar b σ r ch s t (L ++ [u]) (R ++ [v])) (hu : HeadU b u (.node x us) x) (hv : HeadU b v (.node x ss) x) (ou : (Tm.node x us).Ok ar) (ov : (Tm.node x ss).Ok ar) (hx : x < 0) :
    ∃ ch', MeetS ar b σ r ch' s t L R ∧ meas b σ L R < meas b σ (L ++ [u]) (R ++ [v]) := by
  obtain ⟨ch', h1, _⟩ := h.stk.pop
  refine ⟨ch', ⟨h.tri, h.h60, h1, h.pop, h.rest.1, h.rest.2, fun θ => ?_⟩, ?_⟩
  · rw [← h.sol θ]
    constructor
    · rintro ⟨h2, h3⟩
      exact ⟨h2, (allEq_pop h.pop).2 ⟨h3, by rw [hu.rt θ h2, hv.rt θ h2, ok_var ou hx, ok_var ov hx]⟩⟩
    · rintro ⟨h2, h3⟩
      exact ⟨h2, ((allEq_pop h.pop).1 h3).1⟩
  · unfold meas
    refine muU_lt ?_
    rw [h.size hu hv]
    have := flat_pos ((Tm.node x us).sub σ)
    omega
theorem MeetS.bind (h : MeetS ar b σ r ch s t (L ++ [u]) (R ++ [v])) {z : Int} {q : Tm} (hz : z < 0) (h48 : -48 ≤ z) (hb : b z = none) (oq : q.Ok ar) (hq : ∀ y ∈ q.flat, -48 ≤ y) (hq60 : q.flat.length ≤ 60) (hn : z ∉ (q.sub σ).flat) (he : ∀ θ, Sol θ b → (u.sub θ = v.sub θ ↔ θ z = q.sub θ))
    (hM : szU σ L + szU σ R + (q.sub σ).flat.length ≤ szU σ (L ++ [u]) + szU σ (R ++ [v])) (hLR : (∀ e ∈ L, e.Ok ar) ∧ ∀ e ∈ R, e.Ok ar) :
    ∃ σ' r' ch', MeetS ar (setB b z q) σ' r' ch' s t L R ∧ meas (setB b z q) σ' L R < meas b σ (L ++ [u]) (R ++ [v]) := by
  obtain ⟨σ', r', h1, h2⟩ := h.tri.bind hz hb oq hq hn
  obtain ⟨ch', h3, _⟩ := h.stk.pop
  refine ⟨σ', r', ch', ⟨h1, fun x t hx => ?_, h3.mono (setB_mono hb), h.pop, h.rest.1, h.rest.2, fun θ => ?_⟩, ?_⟩
  · by_cases e : x = z
    · rw [e, setB_same] at hx; cases hx; exact hq60
    · rw [setB_other e] at hx; exact h.h60 x t hx
  · rw [← h.sol θ, sol_bind hb]
    constructor
    · rintro ⟨⟨h4, h5⟩, h6⟩
      exact ⟨h4, (allEq_pop h.pop).2 ⟨h6, (he θ h4).2 h5⟩⟩
    · rintro ⟨h4, h5⟩
      obtain ⟨h6, h7⟩ := (allEq_pop h.pop).1 h5
      exact ⟨⟨h4, (he θ h4).1 h7⟩, h6⟩
  · unfold meas
    have h4 := szU_le (σ := σ) (σ' := σ') (M := (q.sub σ).flat.length) (L := L) fun e he => h2 e (hLR.1 e he)
    have h5 := szU_le (σ := σ) (σ' := σ') (M := (q.sub σ).flat.length) (L := R) fun e he => h2 e (hLR.2 e he)
    have hp := flat_pos (q.sub σ)
    obtain ⟨S, hS⟩ : ∃ S, S = szU σ (L ++ [u]) + szU σ (R ++ [v]) := ⟨_, rfl⟩
    rw [← hS] at hM ⊢
    refine muU_bind (by omega) (cnt_set hz h48 hb) ?_
    have h6 : (szU σ L + szU σ R) * (q.sub σ).flat.length ≤ S * S := Nat.mul_le_mul (by omega) (by omega)
    rw [Nat.add_mul] at h6
    omega
theorem MeetS.bindL (h : MeetS ar b σ r ch s t (L ++ [u]) (R ++ [v])) (hu : HeadU b u (.node x us) x) (hv : HeadU b v (.node y ss) y) (ou : (Tm.node x us).Ok ar) (ov : (Tm.node y ss).Ok ar) (dv : ∀ z ∈ (Tm.node y ss).flat, -48 ≤ z) (hx : x < 0) (h48 : -48 ≤ x) (hn : ¬ x ∈ ((Tm.node y ss).sub σ).flat) (hLR : (∀ e ∈ L, e.Ok ar) ∧ ∀ e ∈ R, e.Ok ar) :
    ∃ σ' r' ch', MeetS ar (setB b x (.node y ss)) σ' r' ch' s t L R ∧ meas (setB b x (.node y ss)) σ' L R < meas b σ (L ++ [u]) (R ++ [v]) :=
  h.bind hx h48 (hu.fr hx) ov dv (hv.ld.size h.h60 (h.r60 v (by simp))) hn (fun θ hθ => by rw [hu.rt θ hθ, hv.rt θ hθ, ok_var ou hx, vr_sub hx]) (by rw [h.size hu hv]; omega) hLR
theorem MeetS.bindR (h : MeetS ar b σ r ch s t (L ++ [u]) (R ++ [v])) (hu : HeadU b u (.node x us) x) (hv : HeadU b v (.node y ss) y) (ou : (Tm.node x us).Ok ar) (ov : (Tm.node y ss).Ok ar) (du : ∀ z ∈ (Tm.node x us).flat, -48 ≤ z) (hy : y < 0) (h48 : -48 ≤ y) (hn : ¬ y ∈ ((Tm.node x us).sub σ).flat) (hLR : (∀ e ∈ L, e.Ok ar) ∧ ∀ e ∈ R, e.Ok ar) :
    ∃ σ' r' ch', MeetS ar (setB b y (.node x us)) σ' r' ch' s t L R ∧ meas (setB b y (.node x us)) σ' L R < meas b σ (L ++ [u]) (R ++ [v]) :=
  h.bind hy h48 (hv.fr hy) ou du (hu.ld.size h.h60 (h.l60 u (by simp))) hn (fun θ hθ => by rw [hu.rt θ hθ, hv.rt θ hθ, ok_var ov hy, vr_sub hy]; exact eq_comm) (by rw [h.size hu hv]; omega) hLR
theorem MeetS.args (h : MeetS ar b σ r ch s t (L ++ [u]) (R ++ [v])) (hu : HeadU b u (.node x us) x) (hv : HeadU b v (.node x ss) x) (hx : ¬ x < 0) (hl : us.length = ss.length) (h3 : us.length ≤ 3) :
    ∃ ch', MeetS ar b σ r ch' s t (L ++ us) (R ++ ss) ∧ meas b σ (L ++ us) (R ++ ss) < meas b σ (L ++ [u]) (R ++ [v]) := by
  obtain ⟨ch', h1, h2⟩ := h.stk.pop
  have hu60 := hu.ld.size h.h60 (h.l60 u (by simp))
  have hv60 := hv.ld.size h.h60 (h.r60 v (by simp))
  refine ⟨_, ⟨h.tri, h.h60, .push h1 (fun n' e => ⟨u, h2 n' e, hu.ld⟩) hu60 h3 (fun e he => he), by simp [h.pop, hl], fun e he => ?_, fun e he => ?_, fun θ => ?_⟩, ?_⟩
  · rcases List.mem_append.1 he with he | he
    · exact h.rest.1 e he
    · have := (kid_mem (n := .node x us) he).2; omega
  · rcases List.mem_append.1 he with he | he
    · exact h.rest.2 e he
    · have := (kid_mem (n := .node x ss) he).2; omega
  · rw [← h.sol θ, allEq_append h.pop]
    constructor
    · rintro ⟨h4, h5, h6⟩
      exact ⟨h4, (allEq_pop h.pop).2 ⟨h5, by rw [hu.rt θ h4, hv.rt θ h4]; exact (allEq_args hx).1 h6⟩⟩
    · rintro ⟨h4, h5⟩
      obtain ⟨h6, h7⟩ := (allEq_pop h.pop).1 h5
      rw [hu.rt θ h4, hv.rt θ h4] at h7
      exact ⟨h4, h6, (allEq_args hx).2 h7⟩
  · unfold meas
    refine muU_lt ?_
    rw [h.size hu hv, szU_append, szU_append]
    have := szU_args (σ := σ) (us := us) hx
    have := szU_args (σ := σ) (us := ss) hx
    omega
end

end Go.Proofs.Ytempekmenkeigaa

/-! Plain: terms capped. -/
namespace Go.Proofs.Ytempekmenkeigaa

/-- A place whose term becomes a new variable. -/
noncomputable def freshAt (s : Sy) (p : Nat) (x : Int) : Bool := decide (x < 0) || (decide (p ≠ 0) && dfd s x)
noncomputable def capGo (s : Sy) (t : List Int) : Nat → Nat → Nat → List Int × Nat
  | 0, _, f => ([], f)
  | n + 1, p, f => match t[p]? with
    | none => ([], f)
    | some x => if freshAt s p x = true then (-((f : Int) + 1) :: (capGo s t n (p + (subT s.ar t p).flat.length) (f + 1)).1, (capGo s t n (p + (subT s.ar t p).flat.length) (f + 1)).2)
      else (x :: (capGo s t n (p + 1) f).1, (capGo s t n (p + 1) f).2)
theorem capGo_end {s : Sy} {t : List Int} {n p f : Nat} (h : t.length ≤ p) : capGo s t n p f = ([], f) := by
  cases n with
  | zero => rfl
  | succ n => unfold capGo; rw [List.getElem?_eq_none h]
theorem capGo_fresh {s : Sy} {t : List Int} {n p f : Nat} {x : Int} (hx : t[p]? = some x) (h : freshAt s p x = true) : capGo s t (n + 1) p f = (-((f : Int) + 1) :: (capGo s t n (p + (subT s.ar t p).flat.length) (f + 1)).1, (capGo s t n (p + (subT s.ar t p).flat.length) (f + 1)).2) := by
  conv => lhs; unfold capGo
  rw [hx]; simp only; rw [if_pos h]
theorem capGo_kept {s : Sy} {t : List Int} {n p f : Nat} {x : Int} (hx : t[p]? = some x) (h : freshAt s p x = false) : capGo s t (n + 1) p f = (x :: (capGo s t n (p + 1) f).1, (capGo s t n (p + 1) f).2) := by
  conv => lhs; unfold capGo
  rw [hx]; simp only; rw [if_neg (by rw [h]; simp)]
/-- What is done, and what is to come. -/
def CapSt (s : Sy) (t : List Int) (out : List Int) (p f : Nat) : Prop := ∃ n, t.length ≤ n + p ∧ p ≤ t.length ∧ out.length ≤ p ∧ f ≤ p ∧ out ++ (capGo s t n p f).1 = (capGo s t t.length 0 0).1 ∧ (capGo s t n p f).2 = (capGo s t t.length 0 0).2
theorem CapSt.start (s : Sy) (t : List Int) : CapSt s t [] 0 0 := ⟨t.length, by omega, by omega, by simp, by omega, by simp, rfl⟩
theorem CapSt.fresh {s : Sy} {t out : List Int} {p f : Nat} {x : Int} (h : CapSt s t out p f) (hx : t[p]? = some x) (hf : freshAt s p x = true) (hl : p + (subT s.ar t p).flat.length ≤ t.length) (h1 : 1 ≤ (subT s.ar t p).flat.length) :
    CapSt s t (out ++ [-((f : Int) + 1)]) (p + (subT s.ar t p).flat.length) (f + 1) := by
  obtain ⟨n, h2, h3, h4, h5, h6, h7⟩ := h
  have hp := (List.getElem?_eq_some_iff.1 hx).1
  cases n with
  | zero => omega
  | succ n =>
    rw [capGo_fresh hx hf] at h6 h7
    exact ⟨n, by omega, hl, by simp; omega, by omega, by rw [List.append_assoc]; exact h6, h7⟩
theorem CapSt.kept {s : Sy} {t out : List Int} {p f : Nat} {x : Int} (h : CapSt s t out p f) (hx : t[p]? = some x) (hf : freshAt s p x = false) : CapSt s t (out ++ [x]) (p + 1) f := by
  obtain ⟨n, h2, h3, h4, h5, h6, h7⟩ := h
  have hp := (List.getElem?_eq_some_iff.1 hx).1
  cases n with
  | zero => omega
  | succ n =>
    rw [capGo_kept hx hf] at h6 h7
    exact ⟨n, by omega, by omega, by simp; omega, by omega, by rw [List.append_assoc]; exact h6, h7⟩
noncomputable def capO (s : Sy) (t : List Int) : List Int := (capGo s t t.length 0 0).1
noncomputable def capF (s : Sy) (t : List Int) : Nat := (capGo s t t.length 0 0).2
theorem CapSt.done {s : Sy} {t out : List Int} {p f : Nat} (h : CapSt s t out p f) (hp : t.length ≤ p) : out = capO s t ∧ f = capF s t := by
  obtain ⟨n, _, _, _, _, h6, h7⟩ := h
  rw [capGo_end hp] at h6 h7
  exact ⟨by simpa [capO] using h6, h7⟩
/-- The new variables, in order. -/
def NegSeq (o : List Int) (f g : Nat) : Prop := f ≤ g ∧ o.filter (fun x => decide (x < 0)) = (List.range (g - f)).map fun j : Nat => -((f : Int) + (j : Int) + 1)
theorem capGo_neg {s : Sy} {t : List Int} : ∀ (n p f : Nat), NegSeq (capGo s t n p f).1 f (capGo s t n p f).2
  | 0, p, f => ⟨Nat.le_refl _, by simp [capGo]⟩
  | n + 1, p, f => by
    cases hx : t[p]? with
    | none => unfold capGo; rw [hx]; exact ⟨Nat.le_refl _, by simp⟩
    | some x =>
      cases hf : freshAt s p x with
      | true =>
        rw [capGo_fresh hx hf]
        obtain ⟨h1, h2⟩ := capGo_neg (s := s) (t := t) n (p + (subT s.ar t p).flat.length) (f + 1)
        refine ⟨by simp only; omega, ?_⟩
        simp only
        rw [List.filter_cons_of_pos (by first | (simp; done) | (simp; omega)), h2]
        obtain ⟨m, hm⟩ : ∃ m, m = (capGo s t n (p + (subT s.ar t p).flat.length) (f + 1)).2 := ⟨_, rfl⟩
        rw [← hm] at h1 ⊢
        have e : m - f = (m - (f + 1)) + 1 := by omega
        rw [e, List.range_succ_eq_map, List.map_cons, List.map_map]
        refine List.cons_eq_cons.2 ⟨by simp, ?_⟩
        apply List.map_congr_left
        intro j _
        simp only [Function.comp]
        push_cast
        omega
      | false =>
        rw [capGo_kept hx hf]
        obtain ⟨h1, h2⟩ := capGo_neg (s := s) (t := t) n (p + 1) f
        refine ⟨h1, ?_⟩
        have hx0 : ¬ x < 0 := by
          intro h
          unfold freshAt at hf
          simp [h] at hf
        simp only
        rw [List.filter_cons_of_neg (by simpa using hx0), h2]
theorem capO_neg (s : Sy) (t : List Int) : (capO s t).filter (fun x => decide (x < 0)) = (List.range (capF s t)).map fun j : Nat => -((j : Int) + 1) := by
  have h := (capGo_neg (s := s) (t := t) t.length 0 0).2
  unfold capO capF
  rw [h, Nat.sub_zero]
  apply List.map_congr_left
  intro j _
  simp
noncomputable def capOk (s : Sy) (t : List Int) : Bool := sysOk s && termOk s.ar t && decide (capF s t ≤ 24)
noncomputable def capV (s : Sy) (t : List Int) : List Int := if capOk s t = true then capO s t else []

end Go.Proofs.Ytempekmenkeigaa

/-! Plain: a term is an instance of what it is capped to, and stays one along steps below its head. -/
namespace Go.Proofs.Ytempekmenkeigaa
set_option linter.unusedVariables false

mutual
/-- Capped below the head, and how many variables are used. -/
noncomputable def capA (s : Sy) : Nat → Tm → Tm × Nat
  | f, .node x as => if (decide (x < 0) || dfd s x) = true then (.node (-((f : Int) + 1)) [], f + 1) else (.node x (capL s f as).1, (capL s f as).2)
noncomputable def capL (s : Sy) : Nat → List Tm → List Tm × Nat
  | f, [] => ([], f)
  | f, a :: as => ((capA s f a).1 :: (capL s (capA s f a).2 as).1, (capL s (capA s f a).2 as).2)
end
noncomputable def capT (s : Sy) : Tm → Tm
  | .node x as => if x < 0 then .node (-1) [] else .node x (capL s 0 as).1
theorem capT_node (s : Sy) (x : Int) (as : List Tm) : capT s (.node x as) = if x < 0 then .node (-1) [] else .node x (capL s 0 as).1 := rfl
theorem capL_nil (s : Sy) (f : Nat) : capL s f [] = ([], f) := by simp only [capL]
theorem capL_cons (s : Sy) (f : Nat) (a : Tm) (as : List Tm) : capL s f (a :: as) = ((capA s f a).1 :: (capL s (capA s f a).2 as).1, (capL s (capA s f a).2 as).2) := by simp only [capL]
theorem capA_node (s : Sy) (f : Nat) (x : Int) (as : List Tm) : capA s f (.node x as) = if (decide (x < 0) || dfd s x) = true then (.node (-((f : Int) + 1)) [], f + 1) else (.node x (capL s f as).1, (capL s f as).2) := by simp only [capA]
theorem capL_append (s : Sy) : ∀ (as bs : List Tm) (f : Nat), capL s f (as ++ bs) = ((capL s f as).1 ++ (capL s (capL s f as).2 bs).1, (capL s (capL s f as).2 bs).2)
  | [], bs, f => by rw [List.nil_append, capL_nil]; rfl
  | a :: as, bs, f => by
    rw [List.cons_append, capL_cons, capL_cons, capL_append s as bs]
    rfl
theorem capL_len (s : Sy) : ∀ (as : List Tm) (f : Nat), (capL s f as).1.length = as.length
  | [], f => by rw [capL_nil]
  | a :: as, f => by rw [capL_cons]; simp [capL_len s as]
/-- The list is that of the tree. -/
theorem capGo_tree {s : Sy} {t : List Int} (ht : TermP s.ar t) : ∀ (n p f : Nat) (ts : List Tm), 1 ≤ p → t.length ≤ n + p → OkL s.ar ts → t.drop p = flatL ts → capGo s t n p f = (flatL (capL s f ts).1, (capL s f ts).2)
  | 0, p, f, ts, h1, hn, ho, hd => by
    rw [List.drop_of_length_le (by omega)] at hd
    cases ts with
    | nil => rw [capL_nil]; simp [capGo, flatL_nil]
    | cons a ts => rw [flatL_cons] at hd; have := congrArg List.length hd; have h2 := flat_pos a; simp at this; omega
  | n + 1, p, f, ts, h1, hn, ho, hd => by
    cases ts with
    | nil =>
      rw [flatL_nil] at hd
      rw [capGo_end (by rw [List.drop_eq_nil_iff] at hd; exact hd), capL_nil, flatL_nil]
    | cons a ts =>
      obtain ⟨x, as⟩ := a
      obtain ⟨ha, hts⟩ := OkL_cons.1 ho
      rw [flatL_cons] at hd
      have hd2 := hd
      rw [flat_node, List.cons_append] at hd
      have hp : p < t.length := by
        rcases Nat.lt_or_ge p t.length with h | h
        · exact h
        · rw [List.drop_of_length_le h] at hd; cases hd
      have hx : t[p]? = some x := by
        rw [List.drop_eq_getElem_cons hp] at hd
        rw [List.getElem?_eq_getElem hp, (List.cons_eq_cons.1 hd).1]
      have hd3 : t.drop (p + 1) = flatL as ++ flatL ts := by
        rw [List.drop_eq_getElem_cons hp] at hd
        exact (List.cons_eq_cons.1 hd).2
      have hfr : freshAt s p x = (decide (x < 0) || dfd s x) := by unfold freshAt; rw [decide_eq_true (show p ≠ 0 by omega), Bool.true_and]
      rw [capL_cons, capA_node]
      cases hc : (decide (x < 0) || dfd s x) with
      | true =>
        rw [if_pos rfl]
        have hsub : subT s.ar t p = .node x as := subT_eqS ht ha hd2
        have hdr : t.drop (p + (Tm.node x as).flat.length) = flatL ts := by rw [← List.drop_drop, hd2]; simp
        rw [capGo_fresh hx (hfr.trans hc), hsub, capGo_tree ht n _ (f + 1) ts (by omega) (by have := flat_pos (Tm.node x as); omega) hts hdr]
        simp [flatL_cons, flat_node, flatL_nil]
      | false =>
        rw [if_neg (by simp)]
        rw [capGo_kept hx (hfr.trans hc), capGo_tree ht n (p + 1) f (as ++ ts) (by omega) (by omega) (OkL_append.2 ⟨(Ok_node.1 ha).2, hts⟩) (by rw [hd3, flatL_append]), capL_append]
        simp [flatL_cons, flat_node, flatL_append]
theorem capO_tree {s : Sy} {u : Tm} (ou : u.Ok s.ar) (hu : TermP s.ar u.flat) : capO s u.flat = (capT s u).flat := by
  obtain ⟨x, as⟩ := u
  have hl : (Tm.node x as).flat.length = (flatL as).length + 1 := by rw [flat_node]; simp
  have hx : (Tm.node x as).flat[0]? = some x := by rw [flat_node]; rfl
  rw [capT_node]
  unfold capO
  rw [hl]
  by_cases h0 : x < 0
  · have has : as = [] := by
      have := (Ok_node.1 ou).1
      rw [arI_var h0] at this
      exact List.length_eq_zero_iff.1 (Option.some.inj this).symm
    subst has
    rw [capGo_fresh hx (by simp [freshAt, h0]), subT_eqS hu ou (rest := []) (by simp), capGo_end (by simp), if_pos h0]
    simp [flat_node, flatL_nil]
  · rw [capGo_kept hx (by simp [freshAt, h0]), capGo_tree hu _ 1 0 as (Nat.le_refl _) (by omega) (Ok_node.1 ou).2 (by rw [flat_node]; rfl), if_neg h0, flat_node]
mutual
/-- The second one has the shape of the first one. -/
inductive Cp : Tm → Tm → Prop
  | var {x : Int} {t : Tm} : x < 0 → Cp (.node x []) t
  | fn {x : Int} {cs ts : List Tm} : 0 ≤ x → CpL cs ts → Cp (.node x cs) (.node x ts)
inductive CpL : List Tm → List Tm → Prop
  | nil : CpL [] []
  | cons {c t : Tm} {cs ts : List Tm} : Cp c t → CpL cs ts → CpL (c :: cs) (t :: ts)
end
theorem CpL.append_inv {cs as bs : List Tm} {a : Tm} : CpL cs (as ++ a :: bs) → ∃ ca c cb, cs = ca ++ c :: cb ∧ CpL ca as ∧ Cp c a ∧ CpL cb bs := by
  induction as generalizing cs with
  | nil => intro h; cases h with | cons h1 h2 => exact ⟨[], _, _, rfl, .nil, h1, h2⟩
  | cons b as ih =>
    intro h
    cases h with
    | cons h1 h2 =>
      obtain ⟨ca, c, cb, e, h3, h4, h5⟩ := ih h2
      exact ⟨_ :: ca, c, cb, by rw [e]; rfl, .cons h1 h3, h4, h5⟩
theorem CpL.append {ca cb as bs : List Tm} {a c : Tm} (h1 : CpL ca as) (h2 : Cp c a) (h3 : CpL cb bs) : CpL (ca ++ c :: cb) (as ++ a :: bs) := by
  induction ca generalizing as with
  | nil => cases h1; exact .cons h2 h3
  | cons d ca ih => cases h1 with | cons h4 h5 => exact .cons h4 (ih h5)
mutual
/-- No head is defined. -/
def Nd (s : Sy) : Tm → Prop
  | .node x as => (x < 0 ∨ dfd s x = false) ∧ NdL s as
def NdL (s : Sy) : List Tm → Prop
  | [] => True
  | a :: as => Nd s a ∧ NdL s as
end
theorem NdL_append {s : Sy} {as bs : List Tm} {a : Tm} (h : NdL s (as ++ a :: bs)) : Nd s a := by
  induction as with
  | nil => simp only [List.nil_append, NdL] at h; exact h.1
  | cons b as ih => simp only [List.cons_append, NdL] at h; exact ih h.2
def hdC : Tm → Int
  | .node x _ => x
/-- A step whose left side has a defined head. -/
theorem Cp.step {s : Sy} {R : Tm → Tm → Prop} (hR : ∀ u v, R u v → 0 ≤ hdC u ∧ dfd s (hdC u) = true) {p : Nat} {u v : Tm} (h : At R p u v) : ∀ c, Nd s c → Cp c u → Cp c v := by
  induction h with
  | @here u v h =>
    intro c hn hc
    cases hc with
    | var h0 => exact .var h0
    | @fn x cs ts h0 hl =>
      have := hR _ _ h
      simp only [Nd] at hn
      simp only [hdC] at this
      rcases hn.1 with h1 | h1
      · omega
      · rw [this.2] at h1; cases h1
  | @arg x as bs a b p h ih =>
    intro c hn hc
    cases hc with
    | var h0 => exact .var h0
    | @fn x cs ts h0 hl =>
      obtain ⟨ca, c, cb, rfl, h1, h2, h3⟩ := hl.append_inv
      simp only [Nd] at hn
      exact .fn h0 (CpL.append h1 (ih c (NdL_append hn.2) h2) h3)
theorem Cp.step0 {s : Sy} {R : Tm → Tm → Prop} (hR : ∀ u v, R u v → 0 ≤ hdC u ∧ dfd s (hdC u) = true) {p : Nat} {u v : Tm} (h : At R p u v) (hp : p ≠ 0) {x : Int} {cs : List Tm} (hn : NdL s cs) (hc : Cp (.node x cs) u) : Cp (.node x cs) v := by
  cases h with
  | here h => exact absurd rfl hp
  | @arg y as bs a b p h =>
    cases hc with
    | var h0 => exact .var h0
    | fn h0 hl =>
      obtain ⟨ca, c, cb, rfl, h1, h2, h3⟩ := hl.append_inv
      exact .fn h0 (CpL.append h1 (Cp.step hR h c (NdL_append hn) h2) h3)
mutual
theorem capA_cp (s : Sy) : ∀ (u : Tm) (f : Nat), Cp (capA s f u).1 u ∧ Nd s (capA s f u).1
  | .node x as, f => by
    rw [capA_node]
    cases hc : (decide (x < 0) || dfd s x) with
    | true => rw [if_pos rfl]; exact ⟨.var (by omega), by simp only [Nd, NdL]; exact ⟨.inl (by omega), trivial⟩⟩
    | false =>
      rw [if_neg (by simp)]
      rw [Bool.or_eq_false_iff, decide_eq_false_iff_not] at hc
      obtain ⟨h1, h2⟩ := capL_cp s as f
      exact ⟨.fn (by omega) h1, by simp only [Nd]; exact ⟨.inr hc.2, h2⟩⟩
theorem capL_cp (s : Sy) : ∀ (us : List Tm) (f : Nat), CpL (capL s f us).1 us ∧ NdL s (capL s f us).1
  | [], f => by rw [capL_nil]; exact ⟨.nil, by simp only [NdL]⟩
  | a :: as, f => by
    rw [capL_cons]
    obtain ⟨h1, h2⟩ := capA_cp s a f
    obtain ⟨h3, h4⟩ := capL_cp s as (capA s f a).2
    exact ⟨.cons h1 h3, by simp only [NdL]; exact ⟨h2, h4⟩⟩
end
mutual
theorem capA_ok {s : Sy} : ∀ (u : Tm) (f : Nat), u.Ok s.ar → (capA s f u).1.Ok s.ar
  | .node x as, f, h => by
    rw [capA_node]
    split
    · exact Ok_node.2 ⟨by rw [arI_var (by omega)]; rfl, by simp [OkL]⟩
    · obtain ⟨h1, h2⟩ := Ok_node.1 h
      exact Ok_node.2 ⟨by rw [capL_len]; exact h1, capL_ok as f h2⟩
theorem capL_ok {s : Sy} : ∀ (us : List Tm) (f : Nat), OkL s.ar us → OkL s.ar (capL s f us).1
  | [], f, _ => by rw [capL_nil]; simp [OkL]
  | a :: as, f, h => by
    rw [capL_cons]
    obtain ⟨h1, h2⟩ := OkL_cons.1 h
    exact OkL_cons.2 ⟨capA_ok a f h1, capL_ok as _ h2⟩
end
theorem capT_ok {s : Sy} {u : Tm} (h : u.Ok s.ar) : (capT s u).Ok s.ar := by
  obtain ⟨x, as⟩ := u
  rw [capT_node]
  split
  · exact Ok_node.2 ⟨by rw [arI_var (by omega)]; rfl, by simp [OkL]⟩
  · obtain ⟨h1, h2⟩ := Ok_node.1 h
    exact Ok_node.2 ⟨by rw [capL_len]; exact h1, capL_ok as 0 h2⟩
/-- Each variable once. -/
def Lin (t : List Int) : Prop := (t.filter fun x => decide (x < 0)).Nodup
theorem capO_lin (s : Sy) (t : List Int) : Lin (capO s t) := by
  unfold Lin
  rw [capO_neg]
  refine List.Pairwise.map _ (fun a b h => ?_) List.nodup_range
  show -((a : Int) + 1) ≠ -((b : Int) + 1)
  omega
mutual
theorem Cp.inst {ar : List Int} : ∀ {c t : Tm}, Cp c t → t.Ok ar → Lin c.flat → ∃ g : Int → List Int, (∀ x, x < 0 → ∃ u : Tm, u.Ok ar ∧ g x = u.flat) ∧ fill g c.flat = t.flat
  | _, t, .var (x := x) h0, ho, hl => ⟨fun _ => t.flat, fun _ _ => ⟨t, ho, rfl⟩, by rw [flat_node, flatL_nil, fill_cons, if_pos h0, fill_nil, List.append_nil]⟩
  | _, _, .fn (x := x) (cs := cs) (ts := ts) h0 h, ho, hl => by
    obtain ⟨g, h1, h2⟩ := CpL.inst h (Ok_node.1 ho).2 (by
      unfold Lin at hl ⊢
      rw [flat_node, List.filter_cons_of_neg (by simp; omega)] at hl
      exact hl)
    exact ⟨g, h1, by rw [flat_node, flat_node, fill_cons, if_neg (by omega), h2]; rfl⟩
theorem CpL.inst {ar : List Int} : ∀ {cs ts : List Tm}, CpL cs ts → OkL ar ts → Lin (flatL cs) → ∃ g : Int → List Int, (∀ x, x < 0 → ∃ u : Tm, u.Ok ar ∧ g x = u.flat) ∧ fill g (flatL cs) = flatL ts
  | _, _, .nil, _, _ => ⟨fun x => (Tm.node x []).flat, fun x hx => ⟨_, Ok_node.2 ⟨by rw [arI_var hx]; rfl, by simp [OkL]⟩, rfl⟩, by rw [flatL_nil, fill_nil]⟩
  | _, _, .cons (c := c) (t := t) (cs := cs) (ts := ts) h k, ho, hl => by
    obtain ⟨o1, o2⟩ := OkL_cons.1 ho
    unfold Lin at hl
    rw [flatL_cons, List.filter_append, List.nodup_append] at hl
    obtain ⟨l1, l2, l3⟩ := hl
    obtain ⟨g1, a1, b1⟩ := Cp.inst h o1 l1
    obtain ⟨g2, a2, b2⟩ := CpL.inst k o2 l2
    refine ⟨fun x => if x ∈ c.flat then g1 x else g2 x, fun x hx => ?_, ?_⟩
    · by_cases hm : x ∈ c.flat
      · simp only [if_pos hm]; exact a1 x hx
      · simp only [if_neg hm]; exact a2 x hx
    · rw [flatL_cons, flatL_cons, fill_append, ← b1, ← b2]
      congr 1
      · exact fill_congr fun x hx _ => by simp only [if_pos hx]
      · refine fill_congr fun x hx hx0 => ?_
        have : ¬ x ∈ c.flat := fun hm => l3 x (List.mem_filter.2 ⟨hm, by simpa using hx0⟩) x (List.mem_filter.2 ⟨hx, by simpa using hx0⟩) rfl
        simp only [if_neg this]
end
/-- The pattern of a term, and what has its shape. -/
structure CapW (s : Sy) (c : List Int) (t : List Int) : Prop where
  tr : ∃ (x : Int) (cs : List Tm), (Tm.node x cs).flat = c ∧ NdL s cs ∧ Cp (.node x cs) (tmOf s.ar t)
  li : Lin c
theorem capW_start {s : Sy} {t : List Int} (ht : TermP s.ar t) : CapW s (capO s t) t := by
  obtain ⟨ou, fu⟩ := tmOf_ok ht
  refine ⟨?_, capO_lin s t⟩
  have h := capO_tree ou (by rw [fu]; exact ht)
  rw [fu] at h
  generalize hu : tmOf s.ar t = u at *
  obtain ⟨x, as⟩ := u
  rw [capT_node] at h
  by_cases h0 : x < 0
  · rw [if_pos h0] at h
    exact ⟨-1, [], h.symm, by simp only [NdL], .var (by omega)⟩
  · rw [if_neg h0] at h
    obtain ⟨h1, h2⟩ := capL_cp s as 0
    exact ⟨x, _, h.symm, h2, .fn (by omega) h1⟩
theorem CapW.inst {s : Sy} {c t : List Int} (h : CapW s c t) (ht : TermP s.ar t) : InstP s.ar c t := by
  obtain ⟨x, cs, e, _, hc⟩ := h.tr
  obtain ⟨ou, fu⟩ := tmOf_ok ht
  obtain ⟨g, h1, h2⟩ := hc.inst ou (by rw [e]; exact h.li)
  exact ⟨g, fun x _ hx => h1 x hx, by rw [← e, h2, fu]⟩
theorem CapW.step {s : Sy} {c t : List Int} {q : Stp} (hs : SysP s) (h : CapW s c t) (ht : TermP s.ar t) (hq : StepP s t q) (h0 : q.at_ ≠ 0) : CapW s c q.to := by
  obtain ⟨k, p, r, T', e1, e2, hr, hp, hA, oT, fT, pT⟩ := stepP_tree hs ht hq
  obtain ⟨x, cs, e, hn, hc⟩ := h.tr
  refine ⟨⟨x, cs, e, hn, ?_⟩, h.li⟩
  rw [← fT, tmOf_flat oT]
  refine Cp.step0 (s := s) (fun u v huv => ?_) hA (by omega) hn hc
  obtain ⟨g, _, _, eu, _⟩ := huv
  obtain ⟨hL, _, hhd, _⟩ := hs.2.2 k r hr
  obtain ⟨oL, fL⟩ := tmOf_ok hL
  generalize hl : tmOf s.ar r.l = L at *
  obtain ⟨y, as⟩ := L
  have hy : r.l[0]? = some y := by rw [← fL, flat_node]; rfl
  have hy0 := hhd y hy
  have : hdC u = y := by rw [eu]; simp [Tm.sub, hdC, show ¬ y < 0 by omega]
  rw [this]
  exact ⟨hy0, dfd_t hr hy⟩
theorem capO_term {s : Sy} {t : List Int} (ht : TermP s.ar t) (h24 : capF s t ≤ 24) : TermP s.ar (capO s t) := by
  obtain ⟨ou, fu⟩ := tmOf_ok ht
  have h := capO_tree ou (by rw [fu]; exact ht)
  rw [fu] at h
  have hlen : (capO s t).length ≤ t.length := by
    have : ∀ n p f, (capGo s t n p f).1.length ≤ n := by
      intro n
      induction n with
      | zero => intro p f; exact Nat.le_refl _
      | succ n ih =>
        intro p f
        cases hx : t[p]? with
        | none => unfold capGo; rw [hx]; simp
        | some x =>
          cases hf : freshAt s p x with
          | true => rw [capGo_fresh hx hf]; have := ih (p + (subT s.ar t p).flat.length) (f + 1); simp only [List.length_cons]; omega
          | false => rw [capGo_kept hx hf]; have := ih (p + 1) f; simp only [List.length_cons]; omega
    exact this _ _ _
  have h60 := ht.2.1.2
  rw [h] at hlen ⊢
  refine termP_flat ht.1 (capT_ok ou) (by omega) fun x hx => ?_
  by_cases h0 : x < 0
  · rw [← h] at hx
    have h1 : x ∈ (capO s t).filter fun x => decide (x < 0) := List.mem_filter.2 ⟨hx, by simpa using h0⟩
    rw [capO_neg] at h1
    obtain ⟨j, hj, e⟩ := List.mem_map.1 h1
    rw [List.mem_range] at hj
    omega
  · omega
theorem capF_le {s : Sy} {t : List Int} (ht : TermP s.ar t) : capF s t ≤ t.length := by
  have : ∀ n p f, f ≤ p → p ≤ t.length → (capGo s t n p f).2 ≤ t.length := by
    intro n
    induction n with
    | zero => intro p f h h2; show f ≤ _; omega
    | succ n ih =>
      intro p f h h2
      cases hx : t[p]? with
      | none => unfold capGo; rw [hx]; simp only; omega
      | some x =>
        have hp := (List.getElem?_eq_some_iff.1 hx).1
        obtain ⟨_, hl, _⟩ := sub_term ht hp
        have := flat_pos (subT s.ar t p)
        cases hf : freshAt s p x with
        | true => rw [capGo_fresh hx hf]; exact ih _ _ (by omega) hl
        | false => rw [capGo_kept hx hf]; exact ih _ _ (by omega) (by omega)
  exact this _ _ _ (Nat.le_refl _) (Nat.zero_le _)

end Go.Proofs.Ytempekmenkeigaa
