/- One number and one growing slice of the call's own in a box, wherever these lie. -/
import Derived.Test.YtempekmenkeigaaPB
import Derived.Test.YtempekmenkeigaaMgA
import Derived.Deep.AppendLies
namespace Go.Proofs.Ytempekmenkeigaa
open Go.RowKit
set_option linter.unusedSimpArgs false
set_option linter.unusedVariables false

structure PG (w1 wr : World) (q : Nat) (x : Int) (A : Option Addr) (cA : Nat) (xs : List Int) : Prop where
  c0 : wr.cell? ⟨q, 0, none⟩ = some (.int .i64 x)
  c1 : wr.cell? ⟨q, 1, none⟩ = some (.slice A xs.length cA)
  fr : ∀ j, wr.frozen? ⟨q, j, none⟩ = false
  oA : OwI wr w1.heap.size A xs.length cA xs
  ne : ∀ b o s, A = some ⟨b, o, s⟩ → b ≠ q
  ge : w1.heap.size ≤ q
  ex : Ext w1 wr
theorem PB.pg {w1 wr : World} {x : Int} {A : Option Addr} {cA : Nat} {xs : List Int} (h : PB w1 wr x A cA xs) : PG w1 wr w1.heap.size x A cA xs :=
  ⟨h.c0, h.c1, h.fr, h.oA.lower (by omega), fun b o s e => by have := (h.oA.bd b o s e).1; omega, Nat.le_refl _, h.ex⟩
section
variable {w1 wr wx : World} {x y : Int} {A : Option Addr} {q cA g cap : Nat} {xs : List Int} {o : Obj}
theorem PG.lt (h : PG w1 wr q x A cA xs) : q < wr.heap.size := World.block_lt_of_cell? wr _ h.c0
theorem PG.ext (h : PG w1 wr q x A cA xs) (k : Ext wr wx) : PG w1 wx q x A cA xs :=
  ⟨Ext.keep k h.c0, Ext.keep k h.c1, fun j => (Below.frozen (p := ⟨q, j, none⟩) k h.lt).trans (h.fr j), h.oA.ext k, h.ne, h.ge, h.ex.trans k⟩
theorem PG.setC (h : PG w1 wr q x A cA xs) (y : Int) : PG w1 (wr.setCell ⟨q, 0, none⟩ (.int .i64 y)) q y A cA xs := by
  refine ⟨World.cell?_setCell_same _ _ _ h.c0, ?_, fun j => by rw [World.frozen?_setCell]; exact h.fr j, ?_, h.ne, h.ge, h.ex.set h.ge _⟩
  · rw [World.cell?_setCell_other _ _ _ _ (by simp)]; exact h.c1
  · exact h.oA.setFar _ fun g' o' s' e => h.ne _ _ _ e
theorem PG.form (h : PG w1 wr q x (some ⟨g, 0, none⟩) cA xs) : w1.heap.size ≤ g ∧ g ≠ q ∧ g < wr.heap.size := ⟨(h.oA.bd _ _ _ rfl).1, h.ne _ _ _ rfl, (h.oA.bd _ _ _ rfl).2⟩
/-- One of the slice's elements is set. -/
theorem PG.setE {o s} (h : PG w1 wr q x (some ⟨g, o, s⟩) cA xs) (k : Nat) (y : Int) : PG w1 (wr.setCell ⟨g, k, none⟩ (.int .i64 y)) q x (some ⟨g, 0, none⟩) cA (xs.set k y) := by
  have hb := h.oA.bd _ _ _ rfl
  have hA : (some ⟨g, o, s⟩ : Option Addr) = some ⟨g, 0, none⟩ := by
    rcases h.oA.form with ⟨h0, _⟩ | ⟨g', hA', _⟩
    · cases h0
    · cases hA'; rfl
  rw [hA] at h
  have hne := h.ne _ _ _ rfl
  refine ⟨?_, ?_, fun j => by rw [World.frozen?_setCell]; exact h.fr j, ?_, h.ne, h.ge, h.ex.set (by show _ ≤ g; omega) _⟩
  · rw [World.cell?_setCell_other _ _ _ _ (by first | (simp; done) | (simp; omega))]; exact h.c0
  · rw [World.cell?_setCell_other _ _ _ _ (by first | (simp; done) | (simp; omega)), List.length_set]; exact h.c1
  · rw [List.length_set]; exact h.oA.set k y
/-- Behind an append to it that has not yet been stored. -/
theorem PG.far (h : PG w1 wr q x A cA xs) (hg : (wr.alloc o).grownBy wx (Value.slice A xs.length cA).ownBlock) :
    (∀ j, wx.cell? ⟨q, j, none⟩ = wr.cell? ⟨q, j, none⟩) ∧ ∀ j, wx.frozen? ⟨q, j, none⟩ = false := by
  have hlt1 := h.lt
  have hsz : wr.heap.size < (wr.alloc o).heap.size := by simp [go_sem]
  have hk3 : wx.heap[q]? = wr.heap[q]? := (hg.block _ (by omega) (fun e => by
    cases A with
    | none => cases e
    | some p => obtain ⟨b', o', s'⟩ := p; cases e; exact h.ne _ _ _ rfl rfl)).trans ((Ext.alloc (Ext.refl wr) o).block _ hlt1)
  exact ⟨fun j => World.cell?_of_block hk3, fun j => (World.frozen?_of_block hk3).trans (h.fr j)⟩
theorem PG.grown (h : PG w1 wr q x A cA xs) (hg : (wr.alloc o).grownBy wx (Value.slice A xs.length cA).ownBlock) : Ext w1 wx :=
  Ext.grown (h.ex.alloc o) hg (fun k hk => by have := h.oA.ob2 k hk; omega)
/-- One more element, the slice stored. -/
theorem PG.push (h : PG w1 wr q x A cA xs) (hn : xs.length + 1 ≤ 4194304)
    (hown : wx.ownsRow w1.heap.size 2 1 (.slice (some ⟨g, 0, none⟩) (xs.length + 1) cap) (xs.length + 1) (xs.map (Value.int .i64) ++ [.int .i64 y]))
    (hg : (wr.alloc o).grownBy wx (Value.slice A xs.length cA).ownBlock) (hat : (Value.slice A xs.length cA).ownBlock = some g ∨ g = (wr.alloc o).heap.size) (hlt : g < wx.heap.size) :
    PG w1 (wx.setCell ⟨q, 1, none⟩ (.slice (some ⟨g, 0, none⟩) (xs.length + 1) cap)) q x (some ⟨g, 0, none⟩) cap (xs ++ [y]) := by
  have hlt1 := h.lt
  have hsz : wr.heap.size < (wr.alloc o).heap.size := by simp [go_sem]
  have hF := h.far hg
  have hgne : g ≠ q := by
    rcases hat with e | e
    · cases A with
      | none => cases e
      | some p => obtain ⟨b', o', s'⟩ := p; cases e; exact h.ne _ _ _ rfl
    · omega
  have hc1 : wx.cell? ⟨q, 1, none⟩ = some (.slice A xs.length cA) := (hF.1 1).trans h.c1
  refine ⟨?_, ?_, fun j => by rw [World.frozen?_setCell]; exact hF.2 j, ?_, fun b o s e => by cases e; exact hgne, h.ge, (h.grown hg).set h.ge _⟩
  · rw [World.cell?_setCell_other _ _ _ _ (by simp), hF.1]; exact h.c0
  · rw [List.length_append]; exact World.cell?_setCell_same _ _ _ hc1
  · refine OwI.setFar ?_ _ (fun g' o' s' e => by cases e; exact hgne)
    rw [List.length_append]
    exact ⟨hn, by simpa using hown⟩
end
/-- Of a box's cells and a slice elsewhere. -/
theorem PG.of {w1 wr : World} {q : Nat} {x : Int} {A : Option Addr} {n cA : Nat} {xs : List Int} (hn : n = xs.length) (c0 : wr.cell? ⟨q, 0, none⟩ = some (.int .i64 x)) (c1 : wr.cell? ⟨q, 1, none⟩ = some (.slice A n cA))
    (fr : ∀ j, wr.frozen? ⟨q, j, none⟩ = false) (oA : OwI wr w1.heap.size A n cA xs) (ne : ∀ b o s, A = some ⟨b, o, s⟩ → b ≠ q) (ge : w1.heap.size ≤ q) (ex : Ext w1 wr) : PG w1 wr q x A cA xs := by
  subst hn; exact ⟨c0, c1, fr, oA, ne, ge, ex⟩
section
variable {w1 wr : World} {q : Nat} {x : Int} {A : Option Addr} {n cA : Nat} {xs : List Int} {u v : Value}
/-- Both cells of a box are set. -/
theorem PG.put (hn : n = xs.length) (c0 : wr.cell? ⟨q, 0, none⟩ = some u) (c1 : wr.cell? ⟨q, 1, none⟩ = some v)
    (fr : ∀ j, wr.frozen? ⟨q, j, none⟩ = false) (oA : OwI wr w1.heap.size A n cA xs) (ne : ∀ b o s, A = some ⟨b, o, s⟩ → b ≠ q) (ge : w1.heap.size ≤ q) (ex : Ext w1 wr) :
    PG w1 ((wr.setCell ⟨q, 0, none⟩ (.int .i64 x)).setCell ⟨q, 1, none⟩ (.slice A n cA)) q x A cA xs := by
  refine PG.of hn ?_ ?_ (fun j => by rw [World.frozen?_setCell, World.frozen?_setCell]; exact fr j) ((oA.setFar _ fun g o s e => ne g o s e).setFar _ fun g o s e => ne g o s e) ne ge ((ex.set ge _).set ge _)
  · rw [World.cell?_setCell_other _ _ _ _ (by simp)]; exact World.cell?_setCell_same _ _ _ c0
  · exact World.cell?_setCell_same _ _ _ (by rw [World.cell?_setCell_other _ _ _ _ (by simp)]; exact c1)
end
/-- The first numbers of the second list are added: both lists as they are by turns. -/
theorem addL_snoc {al bs : List Int} {m b : Int} {j : Nat} (hb : bs[j]? = some b) {ys : List Int} (hy : ys = addL al (bs.take j) m) :
    addL al (bs.take (j + 1)) m = if j < ys.length then ys.set j (ys.getD j 0 + m * b) else (ys ++ [0]).set j (0 + m * b) := by
  subst hy
  have hjb : j < bs.length := (List.getElem?_eq_some_iff.1 hb).1
  have hl : (addL al (bs.take j) m).length = max al.length j := by rw [addL_len, List.length_take, Nat.min_eq_left (by omega)]
  have hl1 : (addL al (bs.take (j + 1)) m).length = max al.length (j + 1) := by rw [addL_len, List.length_take, Nat.min_eq_left (by omega)]
  have htk : ∀ i t, (bs.take t).getD i 0 = if i < t then bs.getD i 0 else 0 := by
    intro i t
    rw [List.getD_eq_getElem?_getD, List.getElem?_take]
    split
    · rw [List.getD_eq_getElem?_getD]
    · rfl
  have hbd : bs.getD j 0 = b := by rw [List.getD_eq_getElem?_getD, hb]; rfl
  by_cases hlt : j < (addL al (bs.take j) m).length
  · rw [if_pos hlt]
    refine list_eq_getD (by rw [List.length_set, hl1]; omega) fun i hi => ?_
    rw [addL_get, htk]
    by_cases hij : i = j
    · subst hij
      rw [List.getD_eq_getElem?_getD (l := List.set _ _ _), List.getElem?_set_self hlt, addL_get, htk, if_pos (Nat.lt_succ_self _), if_neg (Nat.lt_irrefl _), hbd]
      simp
    · rw [List.getD_eq_getElem?_getD (l := List.set _ _ _), List.getElem?_set_ne (Ne.symm hij), ← List.getD_eq_getElem?_getD, addL_get, htk]
      by_cases h1 : i < j
      · rw [if_pos h1, if_pos (by omega)]
      · rw [if_neg h1, if_neg (by omega)]
  · rw [if_neg hlt]
    have hj : (addL al (bs.take j) m).length = j := by omega
    refine list_eq_getD (by rw [List.length_set, List.length_append, hl1, hj]; simp; omega) fun i hi => ?_
    rw [addL_get, htk]
    by_cases hij : i = j
    · subst hij
      rw [List.getD_eq_getElem?_getD (l := List.set _ _ _), List.getElem?_set_self (by simp; omega), if_pos (by omega), hbd, List.getD_eq_getElem?_getD, List.getElem?_eq_none (by omega)]
      simp
    · have hi2 : i < j := by omega
      rw [List.getD_eq_getElem?_getD (l := List.set _ _ _), List.getElem?_set_ne (Ne.symm hij), List.getElem?_append_left (by omega), ← List.getD_eq_getElem?_getD, addL_get, htk, if_pos hi2, if_pos (by omega)]

theorem getD_at' {xs : List Int} {k : Nat} {x : Int} (h : xs[k]? = some x) : xs.getD k 0 = x := by rw [List.getD_eq_getElem?_getD, h]; rfl
/-- Some or no integers are appended to integers of the call's own: at the operation, in whatever order. -/
theorem wp_append_ints {P : Program} {w : World} {o : Oper} {a : Act} {K : Act → World → Prop} {Q : Exit → Act → World → Prop} (s x : Operand) (t : TypeId)
    (ho : o.op = .call { callee := .builtin .append, args := #[s, x], argTypes := #[t, t] }) (i : TypeInfo) (ht : P.underlying t = some (.slice 2)) (hi : P.info? 2 = some i) (hz : i.zero = some (.int .i64 0))
    (hsize : i.size = 1) (hby : i.bytes = 8) {D n c m d : Nat} {A B : Option Addr} {xs ys : List Int} (hs : a.eval s = .slice A n c) (h : OwI w D A n c xs) (hx : a.eval x = .slice B m d) (hb : RI w B m ys) (hnm : n + m ≤ 4194304) (hD : D ≤ w.heap.size) (hnc : n ≤ c)
    (hK : ∀ A' c' w', OwI w' D A' (n + m) c' (xs ++ ys) → w.grownBy w' (Value.slice A n c).ownBlock → (∀ b o s, A' = some ⟨b, o, s⟩ → (Value.slice A n c).ownBlock = some b ∨ b = w.heap.size) → K (a.put o.dst (.slice A' (n + m) c')) w') : o.wp P a w K Q := by
  rcases Nat.eq_zero_or_pos m with h0 | h0
  · subst h0
    have hys : ys = [] := List.length_eq_zero_iff.1 hb.len
    subst hys
    have hr : ∀ ty, (Builtin.append_ #[t, t] ty #[.slice A n c, .slice B 0 d]).run P w = .ok (.slice A n c) w := by
      intro ty
      cases A <;> cases B <;> simp [Builtin.append_, run_underlying ht, sizeOf, typeInfo, hi, hnc, storeCells, loadCells, Builtin.lenOf, Builtin.firstCells, loadCellsFrom, storeCells]
    unfold Oper.wp execOp
    simp only [ho, resolve, invoke, builtin, Sem.run_bind, Sem.run_pure, Result.andThen_ok, List.map_toArray, List.map_cons, List.map_nil, hs, hx, hr]
    exact hK A c w (by simpa using h) (World.grownBy.refl _ _) (fun b o s e => by subst e; exact .inl rfl)
  · obtain ⟨b, q, rfl, hc⟩ := hb.2 h0
    refine wp_append_lies w s x t ho D 2 i (.int .i64 0) 1 8 ht hi hz hsize hby rfl (by decide) _ n _ hs h.2 ⟨b, q, none⟩ m d (ys.map (Value.int .i64)) hx (by simp [hb.len]) (fun j u hu => ?_) (fun u hu => ?_) h0 (by unfold maxLen; omega) (by omega) hD _ rfl (fun g cap w' h2 h3 h4 h5 => ?_)
    · rw [List.getElem?_map] at hu
      obtain ⟨y, hy, rfl⟩ := Option.map_eq_some_iff.1 hu
      have : (⟨b, q, none⟩ : Addr).add j = ⟨b, q + j, none⟩ := by unfold Addr.add; split <;> simp_all
      rw [this]; exact hc j y hy
    · obtain ⟨y, _, rfl⟩ := List.mem_map.1 hu; rfl
    · exact hK _ cap w' ⟨hnm, by rw [List.map_append]; exact h2⟩ h3 (fun b o s e => by cases e; exact h4)

theorem OwI.none0 {w : World} {D : Nat} (hD : D ≤ w.heap.size) : OwI (w.alloc (.cells #[] 2)) D (some ⟨w.heap.size, 0, none⟩) 0 0 [] :=
  ⟨by omega, World.ownsRow_made w #[] 0 hD (by decide) rfl⟩
/-- A box's cells behind a row that grew elsewhere. -/
theorem box_grown {w wx : World} {q : Nat} {row : Option Nat} {u v : Value} (hg : w.grownBy wx row) (hne : some q ≠ row) (h0 : w.cell? ⟨q, 0, none⟩ = some u) (h1 : w.cell? ⟨q, 1, none⟩ = some v) (hf : ∀ j, w.frozen? ⟨q, j, none⟩ = false) :
    wx.cell? ⟨q, 0, none⟩ = some u ∧ wx.cell? ⟨q, 1, none⟩ = some v ∧ ∀ j, wx.frozen? ⟨q, j, none⟩ = false :=
  ⟨hg.cell h0 hne, hg.cell h1 hne, fun j => (hg.frozen_far ⟨q, j, none⟩ (by have := World.block_lt_of_cell? w _ h0; exact this) hne).trans (hf j)⟩
/-- The same, to a new and empty slice. -/
theorem wp_append_new {P : Program} {w : World} {o : Oper} {a : Act} {K : Act → World → Prop} {Q : Exit → Act → World → Prop} (s x : Operand) (t : TypeId)
    (ho : o.op = .call { callee := .builtin .append, args := #[s, x], argTypes := #[t, t] }) (i : TypeInfo) (ht : P.underlying t = some (.slice 2)) (hi : P.info? 2 = some i) (hz : i.zero = some (.int .i64 0))
    (hsize : i.size = 1) (hby : i.bytes = 8) {D m d g : Nat} {B : Option Addr} {ys : List Int} (hs : a.eval s = .slice (some ⟨g, 0, none⟩) 0 0) (h : OwI w D (some ⟨g, 0, none⟩) 0 0 []) (hx : a.eval x = .slice B m d) (hb : RI w B m ys) (hD : D ≤ w.heap.size)
    (hK : ∀ A' c' w', OwI w' D A' m c' ys → w.grownBy w' (some g) → (∀ b o s, A' = some ⟨b, o, s⟩ → b = g ∨ b = w.heap.size) → K (a.put o.dst (.slice A' m c')) w') : o.wp P a w K Q := by
  refine wp_append_ints s x t ho i ht hi hz hsize hby hs h hx hb (by have := hb.le; omega) hD (Nat.le_refl _) fun A' c' w' h1 h2 h3 => ?_
  rw [Nat.zero_add] at h1 ⊢
  exact hK A' c' w' (by simpa using h1) h2 fun b o s e => (h3 b o s e).imp (fun e => by cases e; rfl) id

end Go.Proofs.Ytempekmenkeigaa
