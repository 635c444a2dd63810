/- Plain: the answers of the path orders' functions. -/
import Derived.Test.YtleahogikppepaaMLpo
import Derived.Test.YtleahogikppepaaMWt
namespace Go.Proofs.Ytleahogikppepaa
def rkF (rk : List Int) (x : Int) : Int := rk.getD x.toNat 0
noncomputable def lpoA (ar rk : List Int) (lex : Bool) (s t : List Int) : Nat := lpoW (rkF rk) lex (subT ar t 0) (subT ar s 0)
noncomputable def lpoArgs (ar rk s t : List Int) : Bool := (termOk ar s && termOk ar t) && rankOk ar rk
noncomputable def lpoWhyV (ar rk s t : List Int) : Int := if lpoArgs ar rk s t = true then (lpoA ar rk true s t : Int) else 0
noncomputable def lpoLessV (ar rk s t : List Int) : Bool := lpoArgs ar rk s t && decide (0 < lpoA ar rk true s t)
noncomputable def mpoLessV (ar rk s t : List Int) : Bool := lpoArgs ar rk s t && decide (0 < lpoA ar rk false s t)
noncomputable def lpoCmpV (ar rk s t : List Int) : Int := if lpoArgs ar rk s t = true then (if s = t then 0 else if 0 < lpoA ar rk true s t then -1 else if 0 < lpoA ar rk true t s then 1 else 2) else 2
/-- No other one is greater than this one. -/
noncomputable def topAt (ar rk : List Int) (ts : List (List Int)) (t : List Int) : Bool := ts.all fun u => decide (lpoA ar rk true t u = 0)
noncomputable def lpoMaxGo (ar rk : List Int) (ts : List (List Int)) : List (List Int) → Nat → Int
  | [], _ => -1
  | t :: l, k => if topAt ar rk ts t = true then (k : Int) else lpoMaxGo ar rk ts l (k + 1)
noncomputable def lpoMaxOk (ar rk : List Int) (ts : List (List Int)) : Bool := decide (ts.length ≤ 12) && (ts.all (termOk ar) && rankOk ar rk)
noncomputable def lpoMaxV (ar rk : List Int) (ts : List (List Int)) : Int := if lpoMaxOk ar rk ts = true then lpoMaxGo ar rk ts ts 0 else -1
theorem lpoMaxGo_at {ar rk : List Int} {ts : List (List Int)} : ∀ {l : List (List Int)} {k0 k : Nat} {t : List Int}, l[k]? = some t → topAt ar rk ts t = true → (∀ (j : Nat) (u : List Int), j < k → l[j]? = some u → topAt ar rk ts u = false) → lpoMaxGo ar rk ts l k0 = ((k0 + k : Nat) : Int)
  | [], _, _, _, h, _, _ => by simp at h
  | a :: l, k0, 0, t, h, h1, _ => by
    have e : a = t := by simpa using h
    subst e
    unfold lpoMaxGo; rw [if_pos h1]; rfl
  | a :: l, k0, k + 1, t, h, h1, h2 => by
    have h0 := h2 0 a (by omega) rfl
    unfold lpoMaxGo
    rw [if_neg (by rw [h0]; decide), lpoMaxGo_at (l := l) (k := k) (by simpa using h) h1 fun j u hj hu => h2 (j + 1) u (by omega) (by simpa using hu)]
    congr 1; omega
theorem lpoMaxGo_none {ar rk : List Int} {ts : List (List Int)} : ∀ {l : List (List Int)} {k0 : Nat}, (∀ (j : Nat) (u : List Int), l[j]? = some u → topAt ar rk ts u = false) → lpoMaxGo ar rk ts l k0 = -1
  | [], _, _ => rfl
  | a :: l, k0, h => by
    unfold lpoMaxGo
    rw [if_neg (by rw [h 0 a rfl]; decide)]
    exact lpoMaxGo_none fun j u hu => h (j + 1) u (by simpa using hu)
theorem lpoArgs_iff {ar rk s t : List Int} : lpoArgs ar rk s t = true ↔ (TermP ar s ∧ TermP ar t) ∧ SigP ar ∧ rk.length = ar.length ∧ rankOk ar rk = true := by
  unfold lpoArgs
  rw [Bool.and_eq_true, Bool.and_eq_true, termOk_iff, termOk_iff]
  constructor
  · rintro ⟨h1, h2⟩
    exact ⟨h1, h1.1.1, (rankOk_iff.1 h2).2.1, h2⟩
  · rintro ⟨h1, _, _, h2⟩
    exact ⟨h1, h2⟩

end Go.Proofs.Ytleahogikppepaa
