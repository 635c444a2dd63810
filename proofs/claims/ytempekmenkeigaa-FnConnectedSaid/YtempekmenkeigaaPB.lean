/- One number and one growing slice of the call's own, in a box. -/
import Derived.Test.YtempekmenkeigaaMark
namespace Go.Proofs.Ytempekmenkeigaa
open Go.RowKit
set_option linter.unusedSimpArgs false
set_option linter.unusedVariables false

theorem OwI.ob2 {w : World} {D n c : Nat} {A : Option Addr} {xs : List Int} (h : OwI w D A n c xs) : ∀ k, (Value.slice A n c).ownBlock = some k → D ≤ k ∧ k < w.heap.size := by
  intro k hk
  cases A with
  | none => cases hk
  | some p => obtain ⟨g, o, s⟩ := p; cases hk; exact h.bd _ _ _ rfl
structure PB (w1 wr : World) (x : Int) (A : Option Addr) (cA : Nat) (xs : List Int) : Prop where
  c0 : wr.cell? ⟨w1.heap.size, 0, none⟩ = some (.int .i64 x)
  c1 : wr.cell? ⟨w1.heap.size, 1, none⟩ = some (.slice A xs.length cA)
  fr : ∀ j, wr.frozen? ⟨w1.heap.size, j, none⟩ = false
  oA : OwI wr (w1.heap.size + 1) A xs.length cA xs
  ex : Ext w1 wr
theorem PB.lt {w1 wr : World} {x : Int} {A : Option Addr} {cA : Nat} {xs : List Int} (h : PB w1 wr x A cA xs) : w1.heap.size < wr.heap.size := World.block_lt_of_cell? wr _ h.c0
section
variable {w1 wr wx : World} {x y : Int} {A : Option Addr} {cA g cap : Nat} {xs : List Int} {o : Obj}
theorem PB.ext (h : PB w1 wr x A cA xs) (k : Ext wr wx) : PB w1 wx x A cA xs :=
  ⟨Ext.keep k h.c0, Ext.keep k h.c1, fun j => (Below.frozen (p := ⟨w1.heap.size, j, none⟩) k h.lt).trans (h.fr j), h.oA.ext k, h.ex.trans k⟩
theorem PB.new (w1 : World) (x : Int) (t : TypeId) : PB w1 (w1.alloc (.cells #[.int .i64 x, .slice none 0 0] t)) x none 0 [] :=
  ⟨by simp [go_sem], by simp [go_sem], fun j => by simp [go_sem], ⟨by simp, World.ownsRow_nil _ _ _ _⟩, (Ext.refl _).alloc _⟩
/-- The number is set. -/
theorem PB.setC (h : PB w1 wr x A cA xs) (y : Int) : PB w1 (wr.setCell ⟨w1.heap.size, 0, none⟩ (.int .i64 y)) y A cA xs := by
  refine ⟨World.cell?_setCell_same _ _ _ h.c0, ?_, fun j => by rw [World.frozen?_setCell]; exact h.fr j, ?_, h.ex.set (Nat.le_refl _) _⟩
  · rw [World.cell?_setCell_other _ _ _ _ (by simp)]; exact h.c1
  · exact h.oA.setFar _ fun g' o' s' e => by have := (h.oA.bd _ _ _ e).1; simp; omega
/-- One of the slice's elements is set. -/
theorem PB.setE {o s} (h : PB w1 wr x (some ⟨g, o, s⟩) cA xs) (k : Nat) (y : Int) : PB w1 (wr.setCell ⟨g, k, none⟩ (.int .i64 y)) x (some ⟨g, 0, none⟩) cA (xs.set k y) := by
  have hb := h.oA.bd _ _ _ rfl
  have hA : (some ⟨g, o, s⟩ : Option Addr) = some ⟨g, 0, none⟩ := by
    rcases h.oA.form with ⟨h0, _⟩ | ⟨g', hA', _⟩
    · cases h0
    · cases hA'; rfl
  rw [hA] at h
  refine ⟨?_, ?_, fun j => by rw [World.frozen?_setCell]; exact h.fr j, ?_, h.ex.set (by show _ ≤ g; omega) _⟩
  · rw [World.cell?_setCell_other _ _ _ _ (by first | (simp; done) | (simp; omega))]; exact h.c0
  · rw [World.cell?_setCell_other _ _ _ _ (by first | (simp; done) | (simp; omega)), List.length_set]; exact h.c1
  · rw [List.length_set]; exact h.oA.set k y
/-- Behind an append to it that has not yet been stored. -/
theorem PB.far (h : PB w1 wr x A cA xs) (hg : (wr.alloc o).grownBy wx (Value.slice A xs.length cA).ownBlock) :
    (∀ j, wx.cell? ⟨w1.heap.size, j, none⟩ = wr.cell? ⟨w1.heap.size, j, none⟩) ∧ ∀ j, wx.frozen? ⟨w1.heap.size, j, none⟩ = false := by
  have hlt1 := h.lt
  have hsz : wr.heap.size < (wr.alloc o).heap.size := by simp [go_sem]
  have hk3 : wx.heap[w1.heap.size]? = wr.heap[w1.heap.size]? := (hg.block _ (by omega) (fun e => by have := h.oA.ob2 _ e.symm; omega)).trans ((Ext.alloc (Ext.refl wr) o).block _ hlt1)
  exact ⟨fun j => World.cell?_of_block hk3, fun j => (World.frozen?_of_block hk3).trans (h.fr j)⟩
theorem PB.grown (h : PB w1 wr x A cA xs) (hg : (wr.alloc o).grownBy wx (Value.slice A xs.length cA).ownBlock) : Ext w1 wx :=
  Ext.grown (h.ex.alloc o) hg (fun k hk => by have := h.oA.ob2 k hk; omega)
/-- One more element, the slice stored. -/
theorem PB.push (h : PB w1 wr x A cA xs) (hn : xs.length + 1 ≤ 4194304)
    (hown : wx.ownsRow (w1.heap.size + 1) 2 1 (.slice (some ⟨g, 0, none⟩) (xs.length + 1) cap) (xs.length + 1) (xs.map (Value.int .i64) ++ [.int .i64 y]))
    (hg : (wr.alloc o).grownBy wx (Value.slice A xs.length cA).ownBlock) (hat : (Value.slice A xs.length cA).ownBlock = some g ∨ g = (wr.alloc o).heap.size) (hlt : g < wx.heap.size) :
    PB w1 (wx.setCell ⟨w1.heap.size, 1, none⟩ (.slice (some ⟨g, 0, none⟩) (xs.length + 1) cap)) x (some ⟨g, 0, none⟩) cap (xs ++ [y]) := by
  have hlt1 := h.lt
  have hsz : wr.heap.size < (wr.alloc o).heap.size := by simp [go_sem]
  have hF := h.far hg
  have hgne : g ≠ w1.heap.size := by
    rcases hat with e | e
    · have := h.oA.ob2 _ e; omega
    · omega
  have hc1 : wx.cell? ⟨w1.heap.size, 1, none⟩ = some (.slice A xs.length cA) := (hF.1 1).trans h.c1
  refine ⟨?_, ?_, fun j => by rw [World.frozen?_setCell]; exact hF.2 j, ?_, (h.grown hg).set (Nat.le_refl _) _⟩
  · rw [World.cell?_setCell_other _ _ _ _ (by simp), hF.1]; exact h.c0
  · rw [List.length_append]; exact World.cell?_setCell_same _ _ _ hc1
  · refine OwI.setFar ?_ _ (fun g' o' s' e => by cases e; exact hgne)
    rw [List.length_append]
    exact ⟨hn, by simpa using hown⟩
end

end Go.Proofs.Ytempekmenkeigaa
