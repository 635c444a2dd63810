import Derived.Test.YtoopopgbbkmcpaaMTerm
namespace Go.Proofs.Ytoopopgbbkmcpaa

/-- No variable is oftener in s than in t. -/
def oftP (s t : List Int) : Prop := ∀ x ∈ s, x < 0 → s.count x ≤ t.count x
instance (s t : List Int) : Decidable (oftP s t) := by unfold oftP; infer_instance
def oft (s t : List Int) : Bool := decide (oftP s t)
noncomputable def oftenIn (ar s t : List Int) : Bool := termOk ar s && termOk ar t && oft s t
theorem count_snoc {t : List Int} {k : Nat} {z x : Int} (h : t[k]? = some z) : (t.take (k + 1)).count x = (t.take k).count x + if z = x then 1 else 0 := by
  rw [take_snoc h, List.count_append]
  congr 1
  by_cases e : z = x
  · rw [if_pos e, e]; simp
  · rw [if_neg e]; simp [e]
theorem count_le_len {t : List Int} {x : Int} {n : Nat} (h : t.length = n) : t.count x ≤ n := h ▸ List.count_le_length
theorem oft_f {s t : List Int} {x : Int} {k : Nat} (h : s[k]? = some x) (h0 : x < 0) (hc : t.count x < s.count x) : oft s t = false := by
  simp only [oft, decide_eq_false_iff_not]
  exact fun H => absurd (H x (List.mem_of_getElem? h) h0) (by omega)
/-- So far no variable is oftener. -/
def OftTo (s t : List Int) (k : Nat) : Prop := ∀ x ∈ s.take k, x < 0 → s.count x ≤ t.count x
theorem OftTo.start {s t : List Int} : OftTo s t 0 := by intro x h; simp at h
theorem OftTo.done {s t : List Int} {k : Nat} (h : OftTo s t k) (hk : s.length ≤ k) : oft s t = true := by
  simp only [oft, decide_eq_true_eq]
  intro x hx
  exact h x (by rw [List.take_of_length_le hk]; exact hx)
theorem OftTo.step {s t : List Int} {k : Nat} {x : Int} (h : OftTo s t k) (hx : s[k]? = some x) (ho : x < 0 → s.count x ≤ t.count x) : OftTo s t (k + 1) := by
  intro y hy h0
  rw [take_snoc hx] at hy
  rcases List.mem_append.1 hy with hy | hy
  · exact h y hy h0
  · rw [List.mem_singleton] at hy; subst hy; exact ho h0

end Go.Proofs.Ytoopopgbbkmcpaa
