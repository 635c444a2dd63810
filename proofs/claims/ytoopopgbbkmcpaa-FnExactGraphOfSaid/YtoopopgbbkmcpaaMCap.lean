/- Plain: terms capped. -/
import Derived.Test.YtoopopgbbkmcpaaMDep
namespace Go.Proofs.Ytoopopgbbkmcpaa

/-- A place whose term becomes a new variable. -/
noncomputable def freshAt (s : Sy) (p : Nat) (x : Int) : Bool := decide (x < 0) || (decide (p ≠ 0) && dfd s x)
noncomputable def capGo (s : Sy) (t : List Int) : Nat → Nat → Nat → List Int × Nat
  | 0, _, f => ([], f)
  | n + 1, p, f => match t[p]? with
    | none => ([], f)
    | some x => if freshAt s p x = true then (-((f : Int) + 1) :: (capGo s t n (p + (subT s.ar t p).flat.length) (f + 1)).1, (capGo s t n (p + (subT s.ar t p).flat.length) (f + 1)).2)
      else (x :: (capGo s t n (p + 1) f).1, (capGo s t n (p + 1) f).2)
theorem capGo_end {s : Sy} {t : List Int} {n p f : Nat} (h : t.length ≤ p) : capGo s t n p f = ([], f) := by
  cases n with
  | zero => rfl
  | succ n => unfold capGo; rw [List.getElem?_eq_none h]
theorem capGo_fresh {s : Sy} {t : List Int} {n p f : Nat} {x : Int} (hx : t[p]? = some x) (h : freshAt s p x = true) : capGo s t (n + 1) p f = (-((f : Int) + 1) :: (capGo s t n (p + (subT s.ar t p).flat.length) (f + 1)).1, (capGo s t n (p + (subT s.ar t p).flat.length) (f + 1)).2) := by
  conv => lhs; unfold capGo
  rw [hx]; simp only; rw [if_pos h]
theorem capGo_kept {s : Sy} {t : List Int} {n p f : Nat} {x : Int} (hx : t[p]? = some x) (h : freshAt s p x = false) : capGo s t (n + 1) p f = (x :: (capGo s t n (p + 1) f).1, (capGo s t n (p + 1) f).2) := by
  conv => lhs; unfold capGo
  rw [hx]; simp only; rw [if_neg (by rw [h]; simp)]
/-- What is done, and what is to come. -/
def CapSt (s : Sy) (t : List Int) (out : List Int) (p f : Nat) : Prop := ∃ n, t.length ≤ n + p ∧ p ≤ t.length ∧ out.length ≤ p ∧ f ≤ p ∧ out ++ (capGo s t n p f).1 = (capGo s t t.length 0 0).1 ∧ (capGo s t n p f).2 = (capGo s t t.length 0 0).2
theorem CapSt.start (s : Sy) (t : List Int) : CapSt s t [] 0 0 := ⟨t.length, by omega, by omega, by simp, by omega, by simp, rfl⟩
theorem CapSt.fresh {s : Sy} {t out : List Int} {p f : Nat} {x : Int} (h : CapSt s t out p f) (hx : t[p]? = some x) (hf : freshAt s p x = true) (hl : p + (subT s.ar t p).flat.length ≤ t.length) (h1 : 1 ≤ (subT s.ar t p).flat.length) :
    CapSt s t (out ++ [-((f : Int) + 1)]) (p + (subT s.ar t p).flat.length) (f + 1) := by
  obtain ⟨n, h2, h3, h4, h5, h6, h7⟩ := h
  have hp := (List.getElem?_eq_some_iff.1 hx).1
  cases n with
  | zero => omega
  | succ n =>
    rw [capGo_fresh hx hf] at h6 h7
    exact ⟨n, by omega, hl, by simp; omega, by omega, by rw [List.append_assoc]; exact h6, h7⟩
theorem CapSt.kept {s : Sy} {t out : List Int} {p f : Nat} {x : Int} (h : CapSt s t out p f) (hx : t[p]? = some x) (hf : freshAt s p x = false) : CapSt s t (out ++ [x]) (p + 1) f := by
  obtain ⟨n, h2, h3, h4, h5, h6, h7⟩ := h
  have hp := (List.getElem?_eq_some_iff.1 hx).1
  cases n with
  | zero => omega
  | succ n =>
    rw [capGo_kept hx hf] at h6 h7
    exact ⟨n, by omega, by omega, by simp; omega, by omega, by rw [List.append_assoc]; exact h6, h7⟩
noncomputable def capO (s : Sy) (t : List Int) : List Int := (capGo s t t.length 0 0).1
noncomputable def capF (s : Sy) (t : List Int) : Nat := (capGo s t t.length 0 0).2
theorem CapSt.done {s : Sy} {t out : List Int} {p f : Nat} (h : CapSt s t out p f) (hp : t.length ≤ p) : out = capO s t ∧ f = capF s t := by
  obtain ⟨n, _, _, _, _, h6, h7⟩ := h
  rw [capGo_end hp] at h6 h7
  exact ⟨by simpa [capO] using h6, h7⟩
/-- The new variables, in order. -/
def NegSeq (o : List Int) (f g : Nat) : Prop := f ≤ g ∧ o.filter (fun x => decide (x < 0)) = (List.range (g - f)).map fun j : Nat => -((f : Int) + (j : Int) + 1)
theorem capGo_neg {s : Sy} {t : List Int} : ∀ (n p f : Nat), NegSeq (capGo s t n p f).1 f (capGo s t n p f).2
  | 0, p, f => ⟨Nat.le_refl _, by simp [capGo]⟩
  | n + 1, p, f => by
    cases hx : t[p]? with
    | none => unfold capGo; rw [hx]; exact ⟨Nat.le_refl _, by simp⟩
    | some x =>
      cases hf : freshAt s p x with
      | true =>
        rw [capGo_fresh hx hf]
        obtain ⟨h1, h2⟩ := capGo_neg (s := s) (t := t) n (p + (subT s.ar t p).flat.length) (f + 1)
        refine ⟨by simp only; omega, ?_⟩
        simp only
        rw [List.filter_cons_of_pos (by first | (simp; done) | (simp; omega)), h2]
        obtain ⟨m, hm⟩ : ∃ m, m = (capGo s t n (p + (subT s.ar t p).flat.length) (f + 1)).2 := ⟨_, rfl⟩
        rw [← hm] at h1 ⊢
        have e : m - f = (m - (f + 1)) + 1 := by omega
        rw [e, List.range_succ_eq_map, List.map_cons, List.map_map]
        refine List.cons_eq_cons.2 ⟨by simp, ?_⟩
        apply List.map_congr_left
        intro j _
        simp only [Function.comp]
        push_cast
        omega
      | false =>
        rw [capGo_kept hx hf]
        obtain ⟨h1, h2⟩ := capGo_neg (s := s) (t := t) n (p + 1) f
        refine ⟨h1, ?_⟩
        have hx0 : ¬ x < 0 := by
          intro h
          unfold freshAt at hf
          simp [h] at hf
        simp only
        rw [List.filter_cons_of_neg (by simpa using hx0), h2]
theorem capO_neg (s : Sy) (t : List Int) : (capO s t).filter (fun x => decide (x < 0)) = (List.range (capF s t)).map fun j : Nat => -((j : Int) + 1) := by
  have h := (capGo_neg (s := s) (t := t) t.length 0 0).2
  unfold capO capF
  rw [h, Nat.sub_zero]
  apply List.map_congr_left
  intro j _
  simp
noncomputable def capOk (s : Sy) (t : List Int) : Bool := sysOk s && termOk s.ar t && decide (capF s t ≤ 24)
noncomputable def capV (s : Sy) (t : List Int) : List Int := if capOk s t = true then capO s t else []

end Go.Proofs.Ytoopopgbbkmcpaa
