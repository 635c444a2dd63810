/- Plain: terms in prefix form. -/
import Derived.Test.YtoopopgbbkmcpaaModel
namespace Go.Proofs.Ytoopopgbbkmcpaa

/-- How many arguments a number has; by the program: whatever is below nought is a variable. -/
def arI (ar : List Int) (x : Int) : Option Nat := if x < 0 then some 0 else if x < ar.length then some (ar.getD x.toNat 0).toNat else none
/-- The same by the reference: variables from -24 on. -/
def arS (ar : List Int) (x : Int) : Option Nat := if -24 ≤ x ∧ x ≤ -1 then some 0 else if 0 ≤ x ∧ x < ar.length then some (ar.getD x.toNat 0).toNat else none
/-- How many numbers hold so many terms. -/
def scan (f : Int → Option Nat) : List Int → Nat → Option Nat
  | _, 0 => some 0
  | [], _ + 1 => none
  | x :: xs, nd + 1 => match f x with
    | none => none
    | some a => (scan f xs (nd + a)).map (· + 1)
theorem scan_zero (f : Int → Option Nat) (t : List Int) : scan f t 0 = some 0 := by cases t <;> rfl
theorem scan_nil (f : Int → Option Nat) (nd : Nat) : scan f [] (nd + 1) = none := rfl
theorem scan_cons_none {f : Int → Option Nat} {x : Int} {xs : List Int} {nd : Nat} (h : f x = none) : scan f (x :: xs) (nd + 1) = none := by rw [scan, h]
theorem scan_cons_some {f : Int → Option Nat} {x : Int} {xs : List Int} {nd a : Nat} (h : f x = some a) : scan f (x :: xs) (nd + 1) = (scan f xs (nd + a)).map (· + 1) := by rw [scan, h]
theorem scan_le {f : Int → Option Nat} : ∀ {t : List Int} {nd k : Nat}, scan f t nd = some k → k ≤ t.length
  | _, 0, k, h => by rw [scan_zero] at h; cases h; exact Nat.zero_le _
  | [], nd + 1, k, h => by cases h
  | x :: xs, nd + 1, k, h => by
    rcases hf : f x with _ | a
    · rw [scan_cons_none hf] at h; cases h
    · rw [scan_cons_some hf] at h
      obtain ⟨k', hk', rfl⟩ := Option.map_eq_some_iff.1 h
      have := scan_le hk'
      simp; omega
theorem arS_arI {ar : List Int} {x : Int} (h : -24 ≤ x) : arS ar x = arI ar x := by
  unfold arS arI
  by_cases h0 : x < 0
  · rw [if_pos (by omega), if_pos h0]
  · rw [if_neg (by omega), if_neg h0]
    by_cases h1 : x < ar.length
    · rw [if_pos ⟨by omega, h1⟩, if_pos h1]
    · rw [if_neg (by omega), if_neg h1]
theorem arS_lo {ar : List Int} {x : Int} {a : Nat} (h : arS ar x = some a) : -24 ≤ x := by
  unfold arS at h
  by_cases h0 : -24 ≤ x ∧ x ≤ -1
  · exact h0.1
  · rw [if_neg h0] at h
    by_cases h1 : 0 ≤ x ∧ x < ar.length
    · omega
    · rw [if_neg h1] at h; cases h
theorem scan_SI {ar : List Int} : ∀ {t : List Int} {nd k : Nat}, scan (arS ar) t nd = some k ↔ scan (arI ar) t nd = some k ∧ ∀ x ∈ t.take k, -24 ≤ x
  | _, 0, k => by
    rw [scan_zero, scan_zero]
    constructor
    · intro h; cases h; simp
    · exact fun h => h.1
  | [], nd + 1, k => by rw [scan_nil, scan_nil]; simp
  | x :: xs, nd + 1, k => by
    by_cases hx : -24 ≤ x
    · have e := arS_arI (ar := ar) hx
      rcases hf : arI ar x with _ | a
      · rw [scan_cons_none (e.trans hf), scan_cons_none hf]; simp
      · rw [scan_cons_some (e.trans hf), scan_cons_some hf, Option.map_eq_some_iff, Option.map_eq_some_iff]
        constructor
        · rintro ⟨k', h, rfl⟩
          have := scan_SI.1 h
          refine ⟨⟨k', this.1, rfl⟩, fun y hy => ?_⟩
          rw [List.take_succ_cons] at hy
          rcases List.mem_cons.1 hy with rfl | hy
          · exact hx
          · exact this.2 y hy
        · rintro ⟨⟨k', h, rfl⟩, hall⟩
          exact ⟨k', scan_SI.2 ⟨h, fun y hy => hall y (by rw [List.take_succ_cons]; exact List.mem_cons_of_mem _ hy)⟩, rfl⟩
    · constructor
      · intro h
        rcases hf : arS ar x with _ | a
        · rw [scan_cons_none hf] at h; cases h
        · exact absurd (arS_lo hf) hx
      · rintro ⟨h, hall⟩
        exfalso
        rcases hf : arI ar x with _ | a
        · rw [scan_cons_none hf] at h; cases h
        · rw [scan_cons_some hf] at h
          obtain ⟨k', _, rfl⟩ := Option.map_eq_some_iff.1 h
          exact hx (hall x (by rw [List.take_succ_cons]; exact List.mem_cons_self))

/-- A right term. -/
def TermP (ar t : List Int) : Prop := SigP ar ∧ (1 ≤ t.length ∧ t.length ≤ 60) ∧ (∀ x ∈ t, -24 ≤ x) ∧ scan (arI ar) t 1 = some t.length
noncomputable def termOk (ar t : List Int) : Bool := @decide (TermP ar t) (Classical.propDecidable _)
theorem termOk_iff {ar t : List Int} : termOk ar t = true ↔ TermP ar t := by simp [termOk]
theorem termOk_f {ar t : List Int} (h : ¬ TermP ar t) : termOk ar t = false := by simp only [termOk, decide_eq_false_iff_not]; exact h
theorem termOk_sig {ar t : List Int} (h : sigOk ar = false) : termOk ar t = false := termOk_f fun a => by rw [sigOk_iff.2 a.1] at h; cases h
theorem termP_S {ar t : List Int} : TermP ar t ↔ SigP ar ∧ (1 ≤ t.length ∧ t.length ≤ 60) ∧ scan (arS ar) t 1 = some t.length := by
  unfold TermP
  rw [scan_SI, List.take_length]
  constructor
  · rintro ⟨a, b, c, d⟩; exact ⟨a, b, d, c⟩
  · rintro ⟨a, b, d, c⟩; exact ⟨a, b, c, d⟩

/-- Where what begins at a place ends, or -1. -/
def endF (f : Int → Option Nat) (t : List Int) (at_ : Nat) : Int := match scan f (t.drop at_) 1 with
  | some k => (at_ + k : Nat)
  | none => -1
def endI (ar t : List Int) (at_ : Nat) : Int := endF (arI ar) t at_
def endS (ar t : List Int) (at_ : Nat) : Int := endF (arS ar) t at_
theorem endF_len {f : Int → Option Nat} {t : List Int} : endF f t 0 = t.length ↔ scan f t 1 = some t.length := by
  unfold endF
  rw [List.drop_zero]
  rcases scan f t 1 with _ | k
  · simp
    try omega
  · simp
    try omega
theorem endF_le {f : Int → Option Nat} {t : List Int} {at_ : Nat} (h : at_ ≤ t.length) : endF f t at_ ≤ t.length ∧ -1 ≤ endF f t at_ := by
  unfold endF
  rcases hs : scan f (t.drop at_) 1 with _ | k
  · simp
    try omega
  · have := scan_le hs
    rw [List.length_drop] at this
    simp; omega

/-- The walk of a scan: from p on so many terms are still wanted. -/
def ScanAt (f : Int → Option Nat) (t : List Int) (at_ p nd : Nat) : Prop := at_ ≤ p ∧ p ≤ t.length ∧ scan f (t.drop at_) 1 = (scan f (t.drop p) nd).map (· + (p - at_))
theorem ScanAt.start {f : Int → Option Nat} {t : List Int} {at_ : Nat} (h : at_ ≤ t.length) : ScanAt f t at_ at_ 1 := ⟨Nat.le_refl _, h, by simp⟩
theorem ScanAt.done {f : Int → Option Nat} {t : List Int} {at_ p : Nat} (h : ScanAt f t at_ p 0) : endF f t at_ = p := by
  obtain ⟨h1, _, h2⟩ := h
  unfold endF
  rw [h2, scan_zero]
  simp; omega
theorem ScanAt.out {f : Int → Option Nat} {t : List Int} {at_ p nd : Nat} (h : ScanAt f t at_ p (nd + 1)) (hp : p = t.length) : endF f t at_ = -1 := by
  obtain ⟨_, _, h2⟩ := h
  unfold endF
  rw [h2, hp, List.drop_length, scan_nil]
  rfl
theorem ScanAt.bad {f : Int → Option Nat} {t : List Int} {at_ p nd : Nat} {x : Int} (h : ScanAt f t at_ p (nd + 1)) (hx : t[p]? = some x) (hf : f x = none) : endF f t at_ = -1 := by
  obtain ⟨_, _, h2⟩ := h
  obtain ⟨hl, rfl⟩ := List.getElem?_eq_some_iff.1 hx
  unfold endF
  rw [h2, List.drop_eq_getElem_cons hl, scan_cons_none hf]
  rfl
theorem ScanAt.step {f : Int → Option Nat} {t : List Int} {at_ p nd a : Nat} {x : Int} (h : ScanAt f t at_ p (nd + 1)) (hx : t[p]? = some x) (hf : f x = some a) : ScanAt f t at_ (p + 1) (nd + a) := by
  obtain ⟨h1, h0, h2⟩ := h
  obtain ⟨hl, rfl⟩ := List.getElem?_eq_some_iff.1 hx
  refine ⟨by omega, by omega, ?_⟩
  rw [h2, List.drop_eq_getElem_cons hl, scan_cons_some hf, Option.map_map]
  congr 1
  funext k
  show k + 1 + (p - at_) = k + (p + 1 - at_)
  omega
theorem arI_le {ar : List Int} (h : SigP ar) {x : Int} {a : Nat} (hx : arI ar x = some a) : a ≤ 3 := by
  unfold arI at hx
  by_cases h0 : x < 0
  · rw [if_pos h0] at hx; cases hx; omega
  · rw [if_neg h0] at hx
    by_cases h1 : x < ar.length
    · rw [if_pos h1] at hx; cases hx
      have hl : x.toNat < ar.length := by omega
      have := h.2.2 ar[x.toNat] (List.getElem_mem hl)
      rw [List.getD_eq_getElem?_getD, List.getElem?_eq_getElem hl]
      simp only [Option.getD_some]
      omega
    · rw [if_neg h1] at hx; cases hx

/-- The least of some numbers. -/
def minL (t : List Int) : Int := match t with
  | [] => 0
  | x :: xs => xs.foldl (fun a b => if b < a then b else a) x
theorem minL_snoc {t : List Int} {y : Int} (h : t ≠ []) : minL (t ++ [y]) = if y < minL t then y else minL t := by
  cases t with
  | nil => exact absurd rfl h
  | cons x xs =>
    show List.foldl _ x (xs ++ [y]) = _
    rw [List.foldl_append]; rfl
theorem minL_ge {t : List Int} {m : Int} (h : t ≠ []) : m ≤ minL t ↔ ∀ x ∈ t, m ≤ x := by
  cases t with
  | nil => exact absurd rfl h
  | cons x xs =>
    have : ∀ (l : List Int) (a : Int), m ≤ l.foldl (fun a b => if b < a then b else a) a ↔ m ≤ a ∧ ∀ x ∈ l, m ≤ x := by
      intro l
      induction l with
      | nil => intro a; simp
      | cons b l ih =>
        intro a
        rw [List.foldl_cons, ih]
        by_cases hb : b < a
        · rw [if_pos hb]; simp only [List.mem_cons, forall_eq_or_imp]; constructor
          · rintro ⟨h1, h2⟩; exact ⟨by omega, h1, h2⟩
          · rintro ⟨h1, h2, h3⟩; exact ⟨h2, h3⟩
        · rw [if_neg hb]; simp only [List.mem_cons, forall_eq_or_imp]; constructor
          · rintro ⟨h1, h2⟩; exact ⟨h1, by omega, h2⟩
          · rintro ⟨h1, h2, h3⟩; exact ⟨h1, h3⟩
    show m ≤ xs.foldl _ x ↔ _
    rw [this]; simp

end Go.Proofs.Ytoopopgbbkmcpaa
