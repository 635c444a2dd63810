/- Plain: right terms as trees. -/
import Derived.Test.YtoopopgbbkmcpaaMTerm
namespace Go.Proofs.Ytoopopgbbkmcpaa

inductive Tm where
  | node (x : Int) (as : List Tm)
mutual
def Tm.flat : Tm → List Int
  | .node x as => x :: flatL as
def flatL : List Tm → List Int
  | [] => []
  | a :: as => a.flat ++ flatL as
end
mutual
def Tm.Ok (ar : List Int) : Tm → Prop
  | .node x as => arI ar x = some as.length ∧ OkL ar as
def OkL (ar : List Int) : List Tm → Prop
  | [] => True
  | a :: as => a.Ok ar ∧ OkL ar as
end
theorem flatL_nil : flatL [] = [] := by simp only [flatL]
theorem flatL_cons (a : Tm) (as : List Tm) : flatL (a :: as) = a.flat ++ flatL as := by simp only [flatL]
theorem flat_node (x : Int) (as : List Tm) : (Tm.node x as).flat = x :: flatL as := by simp only [Tm.flat]
theorem Ok_node {ar : List Int} {x : Int} {as : List Tm} : (Tm.node x as).Ok ar ↔ arI ar x = some as.length ∧ OkL ar as := by simp only [Tm.Ok]
theorem OkL_cons {ar : List Int} {a : Tm} {as : List Tm} : OkL ar (a :: as) ↔ a.Ok ar ∧ OkL ar as := by simp only [OkL]
theorem OkL_iff {ar : List Int} : ∀ {as : List Tm}, OkL ar as ↔ ∀ a ∈ as, a.Ok ar
  | [] => by simp [OkL]
  | a :: as => by rw [OkL_cons, OkL_iff]; simp
theorem flatL_append : ∀ (as bs : List Tm), flatL (as ++ bs) = flatL as ++ flatL bs
  | [], bs => by simp [flatL_nil]
  | a :: as, bs => by rw [List.cons_append, flatL_cons, flatL_cons, flatL_append, List.append_assoc]
theorem flat_pos (u : Tm) : 1 ≤ u.flat.length := by cases u; rw [flat_node]; simp

mutual
theorem scan_flat {ar : List Int} : ∀ (u : Tm), u.Ok ar → ∀ (rest : List Int) (nd : Nat), scan (arI ar) (u.flat ++ rest) (nd + 1) = (scan (arI ar) rest nd).map (· + u.flat.length)
  | .node x as, h, rest, nd => by
    obtain ⟨h1, h2⟩ := Ok_node.1 h
    rw [flat_node, List.cons_append, scan_cons_some h1, scan_flatL as h2, Option.map_map]
    congr 1
theorem scan_flatL {ar : List Int} : ∀ (as : List Tm), OkL ar as → ∀ (rest : List Int) (nd : Nat), scan (arI ar) (flatL as ++ rest) (nd + as.length) = (scan (arI ar) rest nd).map (· + (flatL as).length)
  | [], _, rest, nd => by simp [flatL_nil]
  | a :: as, h, rest, nd => by
    obtain ⟨h1, h2⟩ := OkL_cons.1 h
    rw [flatL_cons, List.append_assoc, List.length_cons, ← Nat.add_assoc, scan_flat a h1, scan_flatL as h2, Option.map_map]
    congr 1
    funext k
    simp only [Function.comp, List.length_append]; omega
end
theorem parse {ar : List Int} : ∀ {t : List Int} {nd k : Nat}, scan (arI ar) t nd = some k → ∃ us, OkL ar us ∧ us.length = nd ∧ t.take k = flatL us ∧ k = (flatL us).length
  | t, 0, k, h => by rw [scan_zero] at h; cases h; exact ⟨[], by simp [OkL], rfl, by simp [flatL_nil], by simp [flatL_nil]⟩
  | [], nd + 1, k, h => by cases h
  | x :: xs, nd + 1, k, h => by
    rcases hf : arI ar x with _ | a
    · rw [scan_cons_none hf] at h; cases h
    · rw [scan_cons_some hf] at h
      obtain ⟨k', hk', rfl⟩ := Option.map_eq_some_iff.1 h
      obtain ⟨us, h1, h2, h3, h4⟩ := parse hk'
      have h1' := OkL_iff.1 h1
      refine ⟨.node x (us.take a) :: us.drop a, ?_, ?_, ?_, ?_⟩
      · rw [OkL_cons]
        refine ⟨Ok_node.2 ⟨by rw [hf, List.length_take, Nat.min_eq_left (by omega)], OkL_iff.2 fun b hb => h1' b (List.mem_of_mem_take hb)⟩, OkL_iff.2 fun b hb => h1' b (List.mem_of_mem_drop hb)⟩
      · rw [List.length_cons, List.length_drop]; omega
      · rw [flatL_cons, flat_node, List.cons_append, ← flatL_append, List.take_append_drop, List.take_succ_cons, h3]
      · rw [flatL_cons, flat_node, List.cons_append, ← flatL_append, List.take_append_drop, List.length_cons, h4]
theorem tree_of {ar t : List Int} (h : TermP ar t) : ∃ u : Tm, u.Ok ar ∧ u.flat = t := by
  obtain ⟨us, h1, h2, h3, _⟩ := parse h.2.2.2
  rw [List.take_length] at h3
  match us, h2 with
  | [u], _ => exact ⟨u, (OkL_cons.1 h1).1, by rw [h3, flatL_cons, flatL_nil, List.append_nil]⟩
/-- Where a tree ends. -/
theorem endI_flat {ar t rest : List Int} {p : Nat} {u : Tm} (hu : u.Ok ar) (h : t.drop p = u.flat ++ rest) : endI ar t p = (p + u.flat.length : Nat) := by
  unfold endI endF
  rw [h, show (1 : Nat) = 0 + 1 from rfl, scan_flat u hu, scan_zero]
  simp
theorem arI_lt {ar : List Int} {x : Int} {a : Nat} (h : arI ar x = some a) : x < ar.length := by
  unfold arI at h
  by_cases h0 : x < 0
  · omega
  · rw [if_neg h0] at h
    by_cases h1 : x < ar.length
    · exact h1
    · rw [if_neg h1] at h; cases h
mutual
theorem flat_lt {ar : List Int} : ∀ (u : Tm), u.Ok ar → ∀ x ∈ u.flat, x < ar.length
  | .node x as, h, y, hy => by
    obtain ⟨h1, h2⟩ := Ok_node.1 h
    rw [flat_node] at hy
    rcases List.mem_cons.1 hy with rfl | hy
    · exact arI_lt h1
    · exact flatL_lt as h2 y hy
theorem flatL_lt {ar : List Int} : ∀ (as : List Tm), OkL ar as → ∀ x ∈ flatL as, x < ar.length
  | [], _, y, hy => by rw [flatL_nil] at hy; cases hy
  | a :: as, h, y, hy => by
    obtain ⟨h1, h2⟩ := OkL_cons.1 h
    rw [flatL_cons] at hy
    rcases List.mem_append.1 hy with hy | hy
    · exact flat_lt a h1 y hy
    · exact flatL_lt as h2 y hy
end
/-- Where the arguments of a tree at a place begin. -/
def starts : Nat → List Tm → List Int
  | _, [] => []
  | p, a :: as => (p : Int) :: starts (p + a.flat.length) as
theorem starts_len : ∀ (p : Nat) (as : List Tm), (starts p as).length = as.length
  | _, [] => rfl
  | p, a :: as => by rw [starts, List.length_cons, starts_len, List.length_cons]
theorem starts_append : ∀ (p : Nat) (as bs : List Tm), starts p (as ++ bs) = starts p as ++ starts (p + (flatL as).length) bs
  | p, [], bs => by simp [starts, flatL_nil]
  | p, a :: as, bs => by rw [List.cons_append, starts, starts, starts_append, flatL_cons, List.length_append, Nat.add_assoc]; rfl
theorem starts_get {p k : Nat} {as : List Tm} (h : k < as.length) : (starts p as)[k]? = some ((p + (flatL (as.take k)).length : Nat) : Int) := by
  obtain ⟨a, ha⟩ : ∃ a, as.drop k = a :: as.drop (k + 1) := ⟨as[k], List.drop_eq_getElem_cons h⟩
  have e : as = as.take k ++ (a :: as.drop (k + 1)) := by rw [← ha, List.take_append_drop]
  conv => lhs; rw [e]
  rw [starts_append, List.getElem?_append_right (by rw [starts_len, List.length_take]; omega), starts_len, List.length_take, Nat.min_eq_left (by omega), Nat.sub_self, starts]
  rfl
/-- Its k-th argument stands where it begins. -/
theorem drop_arg {t rest : List Int} {p k : Nat} {x : Int} {as : List Tm} {a : Tm} (h : t.drop p = (Tm.node x as).flat ++ rest) (hk : as[k]? = some a) :
    t.drop (p + 1 + (flatL (as.take k)).length) = a.flat ++ (flatL (as.drop (k + 1)) ++ rest) := by
  obtain ⟨hl, rfl⟩ := List.getElem?_eq_some_iff.1 hk
  have e : flatL as = flatL (as.take k) ++ (as[k].flat ++ flatL (as.drop (k + 1))) := by
    rw [← flatL_cons, ← List.drop_eq_getElem_cons hl, ← flatL_append, List.take_append_drop]
  rw [← List.drop_drop, ← List.drop_drop, h, flat_node, List.cons_append, List.drop_succ_cons, List.drop_zero, e, List.append_assoc, List.append_assoc, List.drop_left]
theorem flatL_len_take (as : List Tm) (k : Nat) : (flatL (as.take k)).length ≤ (flatL as).length := by
  have e : flatL as = flatL (as.take k) ++ flatL (as.drop k) := by rw [← flatL_append, List.take_append_drop]
  rw [e, List.length_append]; omega

mutual
theorem flat_inj {ar : List Int} : ∀ (u v : Tm), u.Ok ar → v.Ok ar → ∀ r r', u.flat ++ r = v.flat ++ r' → u = v ∧ r = r'
  | .node x as, .node y bs, hu, hv, r, r', e => by
    obtain ⟨h1, h2⟩ := Ok_node.1 hu
    obtain ⟨h3, h4⟩ := Ok_node.1 hv
    rw [flat_node, flat_node, List.cons_append, List.cons_append] at e
    injection e with e1 e2
    subst e1
    rw [h1] at h3
    injection h3 with h3
    obtain ⟨h5, h6⟩ := flatL_inj as bs h2 h4 h3 r r' e2
    exact ⟨by rw [h5], h6⟩
theorem flatL_inj {ar : List Int} : ∀ (as bs : List Tm), OkL ar as → OkL ar bs → as.length = bs.length → ∀ r r', flatL as ++ r = flatL bs ++ r' → as = bs ∧ r = r'
  | [], [], _, _, _, r, r', e => by rw [flatL_nil] at e; exact ⟨rfl, by simpa using e⟩
  | [], b :: bs, _, _, hl, _, _, _ => by simp at hl
  | a :: as, [], _, _, hl, _, _, _ => by simp at hl
  | a :: as, b :: bs, ha, hb, hl, r, r', e => by
    obtain ⟨h1, h2⟩ := OkL_cons.1 ha
    obtain ⟨h3, h4⟩ := OkL_cons.1 hb
    rw [flatL_cons, flatL_cons, List.append_assoc, List.append_assoc] at e
    obtain ⟨h5, h6⟩ := flat_inj a b h1 h3 _ _ e
    obtain ⟨h7, h8⟩ := flatL_inj as bs h2 h4 (by simpa using hl) _ _ h6
    exact ⟨by rw [h5, h7], h8⟩
end
theorem flat_inj' {ar : List Int} {u v : Tm} (hu : u.Ok ar) (hv : v.Ok ar) (e : u.flat = v.flat) : u = v := (flat_inj u v hu hv [] [] (by rw [e])).1
theorem mem_flatL_len {a : Tm} : ∀ {as : List Tm}, a ∈ as → a.flat.length ≤ (flatL as).length
  | b :: as, h => by
    rw [flatL_cons, List.length_append]
    rcases List.mem_cons.1 h with rfl | h
    · omega
    · have := mem_flatL_len h; omega
/-- The tree of a list. -/
noncomputable def tmOf (ar t : List Int) : Tm := @Classical.epsilon Tm ⟨.node 0 []⟩ fun u => u.Ok ar ∧ u.flat = t
theorem tmOf_flat {ar : List Int} {u : Tm} (hu : u.Ok ar) : tmOf ar u.flat = u := by
  have h := Classical.epsilon_spec (p := fun v : Tm => v.Ok ar ∧ v.flat = u.flat) ⟨u, hu, rfl⟩
  exact flat_inj' h.1 hu h.2
theorem tmOf_ok {ar t : List Int} (h : TermP ar t) : (tmOf ar t).Ok ar ∧ (tmOf ar t).flat = t := by
  obtain ⟨u, h1, rfl⟩ := tree_of h
  rw [tmOf_flat h1]; exact ⟨h1, rfl⟩

end Go.Proofs.Ytoopopgbbkmcpaa
