/- A window into a row of the call's own: what is left of a queue whose head is cut off and whose end grows. And rows of booleans. -/
import Derived.Test.YtjmdfjinicbkeaaCopy
import Derived.ArgAppend
namespace Go.Proofs.Ytjmdfjinicbkeaa
open Go.RowKit
set_option linter.unusedSimpArgs false
set_option linter.unusedVariables false

theorem Ext.setCells {a : World} {b : Nat} : ∀ (vs : List Value) (o : Nat) {w : World}, Below a.heap.size a w → a.heap.size ≤ b → Below a.heap.size a (w.setCells b o vs)
  | [], _, _, h, _ => h
  | v :: vs, o, w, h, hb => Ext.setCells vs (o + 1) (w := w.setCell ⟨b, o, none⟩ v) (Below.setCell h hb v) hb
theorem below_setCells {D : Nat} {a : World} {b : Nat} : ∀ (vs : List Value) (o : Nat) {w : World}, Below D a w → D ≤ b → Below D a (w.setCells b o vs)
  | [], _, _, h, _ => h
  | v :: vs, o, w, h, hb => below_setCells vs (o + 1) (w := w.setCell ⟨b, o, none⟩ v) (Below.setCell h hb v) hb
theorem size_setCellsN (b : Nat) : ∀ (vs : List Value) (o : Nat) (w : World), (w.setCells b o vs).heap.size = w.heap.size
  | [], _, _ => rfl
  | v :: vs, o, w => by
    show ((w.setCell ⟨b, o, none⟩ v).setCells b (o + 1) vs).heap.size = _
    rw [size_setCellsN b vs]; simp

/-- A window that nobody else holds: n of c elements are there, in a block from D on. -/
structure OwW (D : Nat) (w : World) (A : Option Addr) (n c : Nat) (xs : List Int) : Prop where
  len : xs.length = n
  le : n ≤ 4194304
  cap : n ≤ c ∧ c ≤ 9223372036854775807
  nil : A = none → c = 0
  there : 0 < c → ∃ b o, A = some ⟨b, o, none⟩ ∧ D ≤ b ∧ b < w.heap.size ∧ (∀ j, j < c → (w.cell? ⟨b, o + j, none⟩).isSome = true ∧ w.frozen? ⟨b, o + j, none⟩ = false) ∧
    ∀ j x, xs[j]? = some x → w.cell? ⟨b, o + j, none⟩ = some (.int .i64 x)

section
variable {D D' : Nat} {w w' : World} {A : Option Addr} {n c : Nat} {xs : List Int}
theorem OwW.ri (h : OwW D w A n c xs) : RI w A n xs := ⟨⟨h.len, h.le⟩, fun hn => by
  obtain ⟨b, o, e, _, _, _, hc⟩ := h.there (by have := h.cap.1; omega)
  exact ⟨b, o, e, hc⟩⟩
theorem OwW.ofOw (h : OwI w D A n c xs) (hc : n ≤ c ∧ c ≤ 9223372036854775807) : OwW D w A n c xs := by
  refine ⟨h.len, h.1, hc, fun e => ?_, fun h0 => ?_⟩
  · rcases h.form with ⟨_, _, e2⟩ | ⟨g, e2, _⟩
    · exact e2
    · rw [e] at e2; cases e2
  · rcases h.2.2 with ⟨hv, _⟩ | ⟨g, cap, cur, hv, hg, hh, h1, h2, h3, h4⟩
    · cases hv; omega
    · cases hv
      refine ⟨g, 0, rfl, hg, (Array.getElem?_eq_some_iff.1 hh).1, fun j hj => ⟨?_, World.ownsRow.frozenAt h.2 _⟩, fun j x hx => ?_⟩
      · rw [Nat.zero_add, cell_of_row w g _ _ _ (0, 0) hh]
        rw [Array.getElem?_eq_getElem (by omega)]; rfl
      · have hj : j < n := by have := (List.getElem?_eq_some_iff.1 hx).1; rw [h.len] at this; exact this
        have := World.ownsRow.cellAt h.2 j (by omega)
        rw [Nat.zero_add, this]
        simp [hx]
theorem OwW.block (h : OwW D w A n c xs) (hk : ∀ b, D ≤ b → b < w.heap.size → w'.heap[b]? = w.heap[b]?) (hs : w.heap.size ≤ w'.heap.size) : OwW D w' A n c xs :=
  ⟨h.len, h.le, h.cap, h.nil, fun h0 => by
    obtain ⟨b, o, e, h1, h2, h3, h4⟩ := h.there h0
    have hb := hk b h1 h2
    exact ⟨b, o, e, h1, by omega, fun j hj => by
      rw [World.cell?_of_block (w := w) (w' := w') (a := ⟨b, o + j, none⟩) hb, World.frozen?_of_block (w := w) (w' := w') (a := ⟨b, o + j, none⟩) hb]; exact h3 j hj,
      fun j x hx => by rw [World.cell?_of_block (w := w) (w' := w') (a := ⟨b, o + j, none⟩) hb]; exact h4 j x hx⟩⟩
theorem OwW.ext (h : OwW D w A n c xs) (k : Ext w w') : OwW D w' A n c xs := h.block (fun b _ hb => k.block b hb) k.size
/-- What is turned below D is none of its business. -/
theorem OwW.setFar (h : OwW D w A n c xs) {p : Addr} (hp : p.block < D) (v : Value) : OwW D (w.setCell p v) A n c xs :=
  h.block (fun b hb _ => Below.heap_setCell _ _ _ _ (by omega)) (by simp)
/-- Its head. -/
theorem OwW.head (h : OwW D w A n c xs) (hn : 0 < n) : ∃ b o x, A = some ⟨b, o, none⟩ ∧ xs = x :: xs.drop 1 ∧ w.cell? ⟨b, o, none⟩ = some (.int .i64 x) := by
  obtain ⟨b, o, e, _, _, _, hc⟩ := h.there (by have := h.cap.1; omega)
  cases xs with
  | nil => have := h.len; simp at this; omega
  | cons x xs => exact ⟨b, o, x, e, rfl, by have := hc 0 x rfl; rwa [Nat.add_zero] at this⟩
/-- .. and what is behind it. -/
theorem OwW.tail {b o : Nat} (h : OwW D w (some ⟨b, o, none⟩) n c xs) (hn : 0 < n) : OwW D w (some ⟨b, o + 1, none⟩) (n - 1) (c - 1) (xs.drop 1) := by
  have hcap := h.cap
  refine ⟨by rw [List.length_drop, h.len], by have := h.le; omega, by omega, fun e => (by cases e), fun h0 => ?_⟩
  obtain ⟨b', o', e, h1, h2, h3, h4⟩ := h.there (by omega)
  cases e
  refine ⟨b, o + 1, rfl, h1, h2, fun j hj => ?_, fun j x hx => ?_⟩
  · rw [Nat.add_assoc]; exact h3 _ (by omega)
  · rw [List.getElem?_drop] at hx
    rw [Nat.add_assoc]; exact h4 _ x hx
theorem OwW.tail1 {a : Addr} (h : OwW D w (some a) 1 1 xs) : OwW D w (some a) 0 0 (xs.drop 1) :=
  ⟨by rw [List.length_drop, h.len], by omega, by omega, fun e => (by cases e), fun h0 => by omega⟩
end

/-- More at its end. -/
theorem wpList_append_win {P : Program} (w : World) {ops : Array Oper} {rest : List Oper} {o : Oper} {a : Act} {Q : Exit → Act → World → Prop} (hgd : o.guard = none) (s x : Operand) (t : TypeId)
    (ho : o.op = .call { callee := .builtin .append, args := #[s, x], argTypes := #[t, t] }) (i : TypeInfo) (ht : P.underlying t = some (.slice 2)) (hi : P.info? 2 = some i) (hz : i.zero = some (.int .i64 0))
    (hsize : i.size = 1) (hby : i.bytes = 8) {D n c m d : Nat} {A B : Option Addr} {xs ys : List Int} (hs : a.eval s = .slice A n c) (h : OwW D w A n c xs) (hx : a.eval x = .slice B m d) (hb : RI w B m ys) (hm : 0 < m) (hnm : n + m ≤ 4194304) (hD : D ≤ w.heap.size)
    (hK : ∀ A' c' w', OwW D w' A' (n + m) c' (xs ++ ys) → Below D w w' → wpList P ops Q rest (a.put o.dst (.slice A' (n + m) c')) w') : wpList P ops Q (o :: rest) a w := by
  obtain ⟨b', q, rfl, hcell⟩ := hb.2 hm
  have hnews : ∀ j u, (ys.map (Value.int .i64))[j]? = some u → w.cell? ((⟨b', q, none⟩ : Addr).add j) = some u := fun j u hu => by
    rw [List.getElem?_map] at hu
    obtain ⟨y, hy, rfl⟩ := Option.map_eq_some_iff.1 hu
    rw [Addr.add_lit]; exact hcell j y hy
  have hone : ∀ u ∈ ys.map (Value.int .i64), u.oneCell' = true := fun u hu => by obtain ⟨y, _, rfl⟩ := List.mem_map.1 hu; rfl
  have hyl : (ys.map (Value.int .i64)).length = m := by rw [List.length_map, hb.len]
  have hlen : (xs ++ ys).length = n + m := by rw [List.length_append, h.len, hb.len]
  have grown : ∀ v' w', w'.ownsRow w.heap.size 2 1 v' (n + m) (xs.map (Value.int .i64) ++ ys.map (Value.int .i64)) → w.grownBy w' none → wpList P ops Q rest (a.put o.dst v') w' := by
    intro v' w' hown hg
    rw [← List.map_append] at hown
    obtain ⟨g, cap, rfl, _, _⟩ := World.ownsRow.form hown (by omega)
    have hO : OwI w' w.heap.size (some ⟨g, 0, none⟩) (n + m) cap (xs ++ ys) := ⟨hnm, hown⟩
    have hcp : n + m ≤ cap ∧ cap ≤ 9223372036854775807 := by
      rcases hown.2 with ⟨hv, _⟩ | ⟨_, _, _, hv, _, _, h1, h2, _⟩
      · cases hv
      · cases hv; exact ⟨h1, by unfold maxLen at h2; omega⟩
    exact hK _ cap w' (OwW.ofOw (hO.lower hD) hcp) (Below.grown (Below.refl _ _) hg hD (fun k hk => by cases hk))
  by_cases hc0 : 0 < c
  · obtain ⟨b, off, rfl, h1, h2, h3, h4⟩ := h.there hc0
    refine wpList_append_arg w hgd s x t ho 2 i (.int .i64 0) 1 8 ht hi hz hsize hby rfl (by decide) b off n c (xs.map (Value.int .i64)) hs (by rw [List.length_map, h.len, Nat.mul_one]) (fun j u hu => ?_) ⟨b', q, none⟩ m d (ys.map (Value.int .i64)) hx
      (by rw [hyl, Nat.mul_one]) hnews hone (fun hr j hj => ?_) (by unfold maxLen; omega) (by omega) (fun hr => ?_) (fun _ => grown)
    · rw [List.getElem?_map] at hu
      obtain ⟨y, hy, rfl⟩ := Option.map_eq_some_iff.1 hu
      exact h4 j y hy
    · rw [hyl] at hj
      rw [Nat.mul_one, Nat.add_assoc]; exact h3 (n + j) (by omega)
    · rw [Nat.mul_one]
      have hin := World.cell?_setCells_in b (ys.map (Value.int .i64)) (off + n) w (fun j hj => by rw [hyl] at hj; rw [Nat.add_assoc]; exact (h3 (n + j) (by omega)).1)
      have hout : ∀ j, j < n → (w.setCells b (off + n) (ys.map (Value.int .i64))).cell? ⟨b, off + j, none⟩ = w.cell? ⟨b, off + j, none⟩ := fun j hj => World.cell?_setCells_out b _ _ _ _ (fun _ _ => .inl (by show off + j < off + n; omega))
      have hout2 : ∀ j, n + m ≤ j → (w.setCells b (off + n) (ys.map (Value.int .i64))).cell? ⟨b, off + j, none⟩ = w.cell? ⟨b, off + j, none⟩ := fun j hj => World.cell?_setCells_out b _ _ _ _ (fun _ _ => .inr (by rw [hyl]; show off + n + m ≤ off + j; omega))
      have hel : ∀ j x, (xs ++ ys)[j]? = some x → (w.setCells b (off + n) (ys.map (Value.int .i64))).cell? ⟨b, off + j, none⟩ = some (.int .i64 x) := fun j x hx => by
        rcases Nat.lt_or_ge j n with hj | hj
        · rw [List.getElem?_append_left (by rw [h.len]; exact hj)] at hx
          rw [hout j hj]; exact h4 j x hx
        · rw [List.getElem?_append_right (by rw [h.len]; exact hj), h.len] at hx
          have hj2 : j - n < m := by have := (List.getElem?_eq_some_iff.1 hx).1; rw [hb.len] at this; exact this
          have := hin (j - n) (by rw [hyl]; exact hj2)
          rw [show off + n + (j - n) = off + j by omega] at this
          rw [this]
          have e := (List.getElem?_eq_some_iff.1 hx).2
          simp [e]
      refine hK (some ⟨b, off, none⟩) c _ ⟨hlen, hnm, ⟨hr, h.cap.2⟩, fun e => (by cases e), fun _ => ⟨b, off, rfl, h1, by rw [size_setCellsN]; exact h2, fun j hj => ⟨?_, by rw [World.frozen?_setCells]; exact (h3 j hj).2⟩, hel⟩⟩ (below_setCells _ _ (Below.refl _ _) h1)
      rcases Nat.lt_or_ge j n with hj1 | hj1
      · rw [hout j hj1]; exact (h3 j hj).1
      · rcases Nat.lt_or_ge j (n + m) with hj2 | hj2
        · obtain ⟨x, hx⟩ : ∃ x, (xs ++ ys)[j]? = some x := ⟨_, List.getElem?_eq_getElem (by rw [hlen]; exact hj2)⟩
          rw [hel j x hx]; rfl
        · rw [hout2 j hj2]; exact (h3 j hj).1
  · have hc : c = 0 := by omega
    have hn : n = 0 := by have := h.cap.1; omega
    subst hc
    subst hn
    have hx0 : xs = [] := List.length_eq_zero_iff.1 h.len
    subst hx0
    exact wpList_append_grows w hgd s x t ho 2 i (.int .i64 0) 1 8 ht hi hz hsize hby rfl (by decide) A 0 0 [] hs (fun _ => ⟨rfl, rfl⟩) rfl (fun b e j u hu => by simp at hu) ⟨b', q, none⟩ m d (ys.map (Value.int .i64)) hx (by rw [hyl, Nat.mul_one]) hnews hone (by omega) (by unfold maxLen; omega) (by omega)
      (fun v' w' hown hg => grown v' w' (by simpa using hown) hg)

/-- A slice without its head: where nothing would be left of its room its address stays. -/
theorem wpList_slice1 {P : Program} {w : World} {ops : Array Oper} {rest : List Oper} {o : Oper} {a : Act} {Q : Exit → Act → World → Prop} (hgd : o.guard = none) (x : Operand) (t : TypeId) (k1 : IntKind)
    (ho : o.op = .slice t x (some (.const (.int k1 1))) none none) (i : TypeInfo) (ht : P.underlying t = some (.slice 2)) (hi : P.info? 2 = some i) (hsize : i.size = 1) {b f n c : Nat} (hx : a.eval x = .slice (some ⟨b, f, none⟩) n c) (hn : 0 < n) (hnc : n ≤ c)
    (hK : ∀ f', (1 < c → f' = f + 1) → wpList P ops Q rest (a.put o.dst (.slice (some ⟨b, f', none⟩) (n - 1) (c - 1))) w) : wpList P ops Q (o :: rest) a w := by
  refine wpList_plain hgd fun K hK' => ?_
  have he : P.elem t = 2 := by unfold Program.elem; rw [ht]
  have hr : (Instr.sliceAt t (.slice (some ⟨b, f, none⟩) n c) (some (.int k1 1)) none none).run P w = .ok (.slice (some ⟨b, if c = 1 then f else f + 1, none⟩) (n - 1) (c - 1)) w := by
    rw [run_sliceAt_slice _ _ _ _ _ _ (by rw [he]; exact ht), run_slice_l _ _ _ _ _ (by rw [he]; exact ht) _ _ (by decide) (by omega), he]
    simp only [sizeOf, typeInfo, Sem.run_bind, hi, sliced]
    by_cases h1 : c = 1
    · subst h1; simp [Result.andThen, hi]
    · have : ¬ c = (1 : Int).toNat := h1
      simp [Result.andThen, hi, h1, this, Addr.add_lit, hsize]
  unfold Oper.wp execOp
  simp only [ho, hx, Option.map, Sem.run_bind, Sem.run_pure]
  rw [show a.eval (.const (.int k1 1)) = .int k1 1 from rfl, hr]
  exact hK' _ _ (hK _ fun h1 => if_neg (by omega))
theorem OwW.tail' {D : Nat} {w : World} {b f f' n c : Nat} {xs : List Int} (h : OwW D w (some ⟨b, f, none⟩) n c xs) (hn : 0 < n) (hf : 1 < c → f' = f + 1) : OwW D w (some ⟨b, f', none⟩) (n - 1) (c - 1) (xs.drop 1) := by
  have hcap := h.cap
  by_cases h1 : 1 < c
  · rw [hf h1]; exact h.tail hn
  · refine ⟨by rw [List.length_drop, h.len], by have := h.le; omega, by omega, fun e => (by cases e), fun h0 => by omega⟩
theorem RI.tail' {w : World} {b f f' n c : Nat} {xs : List Int} (h : RI w (some ⟨b, f, none⟩) n xs) (hn : 0 < n) (hnc : n ≤ c) (hf : 1 < c → f' = f + 1) : RI w (some ⟨b, f', none⟩) (n - 1) (xs.drop 1) := by
  refine ⟨⟨by rw [List.length_drop, h.len], by have := h.le; omega⟩, fun h0 => ?_⟩
  obtain ⟨b', o', e, hc⟩ := h.2 hn
  cases e
  refine ⟨b, f', rfl, fun j x hx => ?_⟩
  rw [List.getElem?_drop] at hx
  rw [hf (by omega), Nat.add_assoc]; exact hc _ x hx

/-- A row of booleans of the call's own. -/
def OwB (u m : Nat) (w : World) (us : List Bool) : Prop := w.ownsRow u 4 1 (.slice (some ⟨u, 0, none⟩) m m) m (us.map Value.bool)
section
variable {u m : Nat} {w w' : World} {us : List Bool}
theorem OwB.len (h : OwB u m w us) : us.length = m := by have := h.1; simpa using this
theorem OwB.block (h : OwB u m w us) (hk : w'.heap[u]? = w.heap[u]?) : OwB u m w' us := by
  refine ⟨h.1, ?_⟩
  rcases h.2 with h2 | ⟨g, cap, cur, hv, hg, hh, r⟩
  · exact .inl h2
  · have hA : g = u := by cases hv; rfl
    subst hA
    exact .inr ⟨g, cap, cur, hv, hg, by rw [hk]; exact hh, r⟩
theorem OwB.lt (h : OwB u m w us) : u < w.heap.size := by
  rcases h.2 with ⟨hv, _⟩ | ⟨g, cap, cur, hv, hg, hh, r⟩
  · cases hv
  · cases hv; exact (Array.getElem?_eq_some_iff.1 hh).1
theorem OwB.below (h : OwB u m w us) {D : Nat} (k : Below D w w') (hu : u < D) : OwB u m w' us := h.block (k.block u hu)
theorem OwB.ext (h : OwB u m w us) (k : Ext w w') : OwB u m w' us := h.block (k.block u h.lt)
theorem OwB.at_ (h : OwB u m w us) {k : Nat} (hk : k < m) : ∃ b, us[k]? = some b ∧ w.cell? ⟨u, k, none⟩ = some (.bool b) ∧ w.frozen? ⟨u, k, none⟩ = false := by
  have hl : k < us.length := by rw [h.len]; exact hk
  refine ⟨us[k], List.getElem?_eq_getElem hl, ?_, World.ownsRow.frozenAt h k⟩
  rw [World.ownsRow.cellAt h k (by omega)]
  simp [hl]
theorem OwB.set (h : OwB u m w us) (k : Nat) (b : Bool) : OwB u m (w.setCell ⟨u, k, none⟩ (.bool b)) (us.set k b) := by
  have := (World.ownsRow.stored h k (.bool b)).1
  unfold OwB
  simpa [List.map_set] using this
end

end Go.Proofs.Ytjmdfjinicbkeaa
