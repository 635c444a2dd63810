/- Plain: where a pair stands in the list of all; a part by its places. -/
import Derived.Test.YtempekmenkeigaaPairL
import Derived.Test.YtempekmenkeigaaEmb
-- rd: RdI
namespace Go.Proofs.Ytempekmenkeigaa
set_option linter.unusedVariables false

theorem prR_pre (s : Sy) (r : Ru) (k : Nat) {a b : Nat} (h : a ≤ b) : ∃ l, prR s r k b = prR s r k a ++ l := by
  induction b with
  | zero => obtain rfl : a = 0 := by omega
            exact ⟨[], by simp⟩
  | succ b ih =>
    rcases Nat.lt_or_ge a (b + 1) with h1 | h1
    · obtain ⟨l, e⟩ := ih (by omega)
      refine ⟨l ++ (match r.r[b]? with | some x => (depOf s r k b x).toList | none => []), ?_⟩
      rw [← List.append_assoc, ← e]; rfl
    · obtain rfl : a = b + 1 := by omega
      exact ⟨[], by simp⟩
theorem prS_pre (s : Sy) {a b : Nat} (h : a ≤ b) : ∃ l, prS s b = prS s a ++ l := by
  induction b with
  | zero => obtain rfl : a = 0 := by omega
            exact ⟨[], by simp⟩
  | succ b ih =>
    rcases Nat.lt_or_ge a (b + 1) with h1 | h1
    · obtain ⟨l, e⟩ := ih (by omega)
      refine ⟨l ++ (match s.rs[b]? with | some r => prR s r b r.r.length | none => []), ?_⟩
      rw [← List.append_assoc, ← e]; rfl
    · obtain rfl : a = b + 1 := by omega
      exact ⟨[], by simp⟩
/-- The pair of a place stands where the ones before it end. -/
theorem pr_at {s : Sy} {r : Ru} {k a : Nat} {x : Int} {q : DepP} (hr : s.rs[k]? = some r) (hx : r.r[a]? = some x) (h : depOf s r k a x = some q) : (prAll s)[(prS s k).length + (prR s r k a).length]? = some q := by
  have hk := (List.getElem?_eq_some_iff.1 hr).1
  have ha := (List.getElem?_eq_some_iff.1 hx).1
  obtain ⟨l, e⟩ := prS_pre s (show k + 1 ≤ s.rs.length by omega)
  obtain ⟨l2, e2⟩ := prR_pre s r k (show a + 1 ≤ r.r.length by omega)
  unfold prAll
  rw [e, prS_succ hr, e2, prR_some hx h]
  simp [List.getElem?_append]
theorem prS_15 {s : Sy} (h : ∀ (j : Nat) (r : Ru), s.rs[j]? = some r → r.r.length ≤ 15) : ∀ k, (prS s k).length ≤ k * 15
  | 0 => by show ([] : List DepP).length ≤ _; simp
  | k + 1 => by
    have h1 := prS_15 h k
    cases hr : s.rs[k]? with
    | none =>
      have e : prS s (k + 1) = prS s k := by show prS s k ++ _ = _; rw [hr]; simp
      rw [e]; omega
    | some r =>
      rw [prS_succ hr, List.length_append]
      have h2 := prR_le s r k r.r.length
      have h3 := h k r hr
      omega
theorem prB_15 {s : Sy} (hs : SysP s) (h3 : s.rs.length ≤ 3) (h : ∀ (j : Nat) (r : Ru), s.rs[j]? = some r → r.r.length ≤ 15) : prB s = true ∧ prV s = prAll s := by
  have h1 : (prAll s).length ≤ 45 := by have := prS_15 h s.rs.length; unfold prAll; omega
  have hb : prB s = true := by unfold prB; rw [sysOk_iff.2 hs]; simp; omega
  refine ⟨hb, ?_⟩
  unfold prV
  rw [if_pos (sysOk_iff.2 hs), if_neg (by omega)]
/-- A place is among those so far where the part is the term itself. -/
def PartTo (ar L u : List Int) (i : Nat) (ys : List Int) : Prop := ∃ j y, j < i ∧ ys[j]? = some y ∧ 0 < y ∧ (subT ar L y.toNat).flat = u
theorem part_has {ar L u ys : List Int} (h : EmbTo ar u L L.length ys) : PartTo ar L u ys.length ys ↔ has ar L u = true := by
  simp only [has, decide_eq_true_eq]
  constructor
  · rintro ⟨j, y, hj, hy, h0, e⟩
    obtain ⟨k, rfl, hk⟩ := h.lt y (List.mem_of_getElem? hy)
    rw [Int.toNat_natCast] at e
    exact ⟨k, by omega, hk, e⟩
  · rintro ⟨p, h1, h2, e⟩
    have hm := h.all p h2 (by rw [e]; exact inst_refl ar u)
    obtain ⟨j, hj, ej⟩ := List.mem_iff_getElem.1 hm
    exact ⟨j, (p : Int), hj, by rw [List.getElem?_eq_getElem hj, ej], by omega, by rw [Int.toNat_natCast]; exact e⟩
theorem PartTo.succ {ar L u ys : List Int} {i : Nat} {y : Int} (hy : ys[i]? = some y) : PartTo ar L u (i + 1) ys ↔ PartTo ar L u i ys ∨ (0 < y ∧ (subT ar L y.toNat).flat = u) := by
  constructor
  · rintro ⟨j, z, hj, hz, h0, e⟩
    rcases Nat.lt_or_ge j i with h | h
    · exact .inl ⟨j, z, h, hz, h0, e⟩
    · obtain rfl : j = i := by omega
      rw [hy] at hz; cases hz
      exact .inr ⟨h0, e⟩
  · rintro (⟨j, z, hj, hz, h0, e⟩ | ⟨h0, e⟩)
    · exact ⟨j, z, by omega, hz, h0, e⟩
    · exact ⟨i, y, by omega, hy, h0, e⟩
/-- The head is defined. -/
theorem heads_dfd {s : Sy} {ys : List Int} {x : Int} (h : HeadsTo s s.rs.length ys) : x ∈ ys ↔ dfd s x = true := by
  rw [h x]
  constructor
  · rintro ⟨j, r, _, hr, e⟩; exact dfd_t hr e
  · intro hd
    simp only [dfd, decide_eq_true_eq] at hd
    obtain ⟨r, hr, e⟩ := hd
    obtain ⟨j, hj, ej⟩ := List.mem_iff_getElem.1 hr
    exact ⟨j, r, hj, by rw [List.getElem?_eq_getElem hj, ej], e⟩
theorem dfd_pos {s : Sy} {x : Int} (hs : SysP s) (h : dfd s x = true) : 0 ≤ x := by
  simp only [dfd, decide_eq_true_eq] at h
  obtain ⟨r, hr, e⟩ := h
  obtain ⟨j, hj, ej⟩ := List.mem_iff_getElem.1 hr
  exact (hs.2.2 j r (by rw [List.getElem?_eq_getElem hj, ej])).2.2.1 x e
theorem dep_none {s : Sy} {r : Ru} {k a : Nat} {x : Int} (h : dfd s x = false ∨ has s.ar r.l (subT s.ar r.r a).flat = true) : depOf s r k a x = none := by
  unfold depOf
  split
  · rfl
  · split
    · rfl
    · rename_i h1 h2
      rcases h with h | h
      · exact absurd h h2
      · rw [if_pos h]
theorem dep_some {s : Sy} {r : Ru} {k a : Nat} {x : Int} (hs : SysP s) (h : dfd s x = true) (h2 : has s.ar r.l (subT s.ar r.r a).flat = false) : depOf s r k a x = some ⟨r.l, (subT s.ar r.r a).flat, k, a⟩ := by
  unfold depOf
  have := dfd_pos hs h
  rw [if_neg (by omega), if_neg (by rw [h]; simp), if_neg (by rw [h2]; simp)]
theorem dep_good {s : Sy} {r : Ru} {k a : Nat} {x : Int} {q : DepP} (hs : SysP s) (hr : s.rs[k]? = some r) (hx : r.r[a]? = some x) (h : depOf s r k a x = some q) (e1 : q.rule = k) (e2 : q.at_ = a) : depOk s q = true := by
  rw [depOk_some (sysOk_iff.2 hs) e1 e2 hr hx h]
  simp [DepP.same]

end Go.Proofs.Ytempekmenkeigaa
