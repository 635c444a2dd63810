/- Plain: linear polynomials over a signature. -/
import Derived.Test.YtoopopgbbkmcpaaModel
namespace Go.Proofs.Ytoopopgbbkmcpaa

structure Pl where
  c : Int
  cf : List Int

def szPsF (left : Int) (ps : List Pl) : Int := ps.foldl (fun l p => szI l p.cf.length) left
def szPolys (left : Int) (ps : List Pl) : Int := szPsF (szI left ps.length) ps
theorem szI_m1' (n : Nat) : szI (-1) n = -1 := szI_m1 (by omega)
theorem szPsF_m1 (ps : List Pl) : szPsF (-1) ps = -1 := by
  induction ps with
  | nil => rfl
  | cons p ps ih => show szPsF (szI (-1) _) ps = -1; rw [szI_m1']; exact ih
theorem szPsF_bd (left : Int) (ps : List Pl) (h : -1 ≤ left ∧ left ≤ 1048576) : -1 ≤ szPsF left ps ∧ szPsF left ps ≤ left := by
  induction ps generalizing left with
  | nil => exact ⟨h.1, Int.le_refl _⟩
  | cons p ps ih =>
    have h1 := szI_bd left p.cf.length h
    have h2 := szI_le left p.cf.length h.1
    have h3 := ih (szI left p.cf.length) h1
    exact ⟨h3.1, Int.le_trans h3.2 h2⟩
theorem szPolys_bd (left : Int) (ps : List Pl) (h : -1 ≤ left ∧ left ≤ 1048576) : -1 ≤ szPolys left ps ∧ szPolys left ps ≤ 1048576 := by
  have h1 := szI_bd left ps.length h
  have h2 := szPsF_bd _ ps h1
  exact ⟨h2.1, by show szPsF _ _ ≤ _; omega⟩
theorem szPsF_snoc (left : Int) (ps : List Pl) (p : Pl) : szPsF left (ps ++ [p]) = szI (szPsF left ps) p.cf.length := by simp [szPsF, List.foldl_append]
theorem szPsF_neg {left : Int} {ps : List Pl} {k : Nat} (h : szPsF left (ps.take k) = -1) : szPsF left ps = -1 := by
  have e : szPsF left ps = szPsF (szPsF left (ps.take k)) (ps.drop k) := by
    unfold szPsF; rw [← List.foldl_append, List.take_append_drop]
  rw [e, h]; exact szPsF_m1 _
theorem szPsF_ok {left : Int} {ps : List Pl} (hl : -1 ≤ left ∧ left ≤ 1048576) (h : 0 ≤ szPsF left ps) : ∀ p ∈ ps, (p.cf.length : Int) ≤ left := by
  induction ps generalizing left with
  | nil => simp
  | cons p ps ih =>
    have h1 := szI_bd left p.cf.length hl
    have h2 := szPsF_bd (szI left p.cf.length) ps h1
    have h0 : 0 ≤ szPsF (szI left p.cf.length) ps := h
    have h3 := szI_nonneg (left := left) (n := p.cf.length) (by omega)
    intro q hq
    rcases List.mem_cons.1 hq with rfl | hq
    · omega
    · have := ih h1 h0 q hq; omega
theorem szPolys_ok {left : Int} {ps : List Pl} (hl : -1 ≤ left ∧ left ≤ 1048576) (h : 0 ≤ szPolys left ps) : (ps.length : Int) ≤ left ∧ szPolys left ps ≤ left ∧ ∀ p ∈ ps, (p.cf.length : Int) ≤ left := by
  have h1 := szI_bd left ps.length hl
  have h2 := szPsF_bd (szI left ps.length) ps h1
  have h3 := szPsF_ok h1 h
  have h0 : 0 ≤ szPsF (szI left ps.length) ps := h
  have h4 := szI_nonneg (left := left) (n := ps.length) (by omega)
  exact ⟨h4.1, by show szPsF _ _ ≤ _; omega, fun p hp => by have := h3 p hp; omega⟩

/-- One polynomial is right for an arity. -/
def PlAt (n : Int) (p : Pl) : Prop := (p.cf.length : Int) = n ∧ (0 ≤ p.c ∧ p.c ≤ 9) ∧ ∀ x ∈ p.cf, 0 ≤ x ∧ x ≤ 9
def PolysP (ar : List Int) (ps : List Pl) : Prop := SigP ar ∧ ps.length = ar.length ∧ ∀ (j : Nat) (p : Pl) (n : Int), ps[j]? = some p → ar[j]? = some n → PlAt n p
noncomputable def plAt (n : Int) (p : Pl) : Bool := @decide (PlAt n p) (Classical.propDecidable _)
theorem plAt_t {n : Int} {p : Pl} (h : PlAt n p) : plAt n p = true := by simp only [plAt, decide_eq_true_eq]; exact h
theorem plAt_f {n : Int} {p : Pl} (h : ¬ PlAt n p) : plAt n p = false := by simp only [plAt, decide_eq_false_iff_not]; exact h
noncomputable def polysOk (ar : List Int) (ps : List Pl) : Bool := @decide (PolysP ar ps) (Classical.propDecidable _)
theorem polysOk_iff {ar : List Int} {ps : List Pl} : polysOk ar ps = true ↔ PolysP ar ps := by simp [polysOk]
theorem polysOk_f {ar : List Int} {ps : List Pl} (h : ¬ PolysP ar ps) : polysOk ar ps = false := by simp only [polysOk, decide_eq_false_iff_not]; exact h
theorem polysOk_sig {ar : List Int} {ps : List Pl} (h : sigOk ar = false) : polysOk ar ps = false := polysOk_f fun a => by rw [sigOk_iff.2 a.1] at h; cases h
theorem polysOk_len {ar : List Int} {ps : List Pl} (h : ¬ ps.length = ar.length) : polysOk ar ps = false := polysOk_f fun a => h a.2.1
theorem polysOk_at {ar : List Int} {ps : List Pl} {k : Nat} {p : Pl} {n : Int} (hp : ps[k]? = some p) (hn : ar[k]? = some n) (h : ¬ PlAt n p) : polysOk ar ps = false := polysOk_f fun a => h (a.2.2 k p n hp hn)
theorem polysOk_all {ar : List Int} {ps : List Pl} (h1 : sigOk ar = true) (h2 : ps.length = ar.length) (h : ∀ (j : Nat) (p : Pl) (n : Int), j < ps.length → ps[j]? = some p → ar[j]? = some n → PlAt n p) : polysOk ar ps = true :=
  polysOk_iff.2 ⟨sigOk_iff.1 h1, h2, fun j p n hp hn => h j p n (List.getElem?_eq_some_iff.1 hp).1 hp hn⟩

end Go.Proofs.Ytoopopgbbkmcpaa
