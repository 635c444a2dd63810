/- PlainWeights: two slices that grow by turns in one struct. -/
import Derived.Test.YtleahogikppepaaMark
import Derived.Test.YtleahogikppepaaWt
import Derived.Deep.AppendLies
-- rd: RdWt
namespace Go.Proofs.Ytleahogikppepaa
open Go.RowKit
set_option linter.unusedSimpArgs false
set_option linter.unusedVariables false

def upto (n : Nat) : List Int := (List.range n).map fun j : Nat => (j : Int)
theorem upto_len (n : Nat) : (upto n).length = n := by simp [upto]
theorem upto_succ (n : Nat) : upto (n + 1) = upto n ++ [(n : Int)] := by simp [upto, List.range_succ]
theorem ones_succ (n : Nat) : List.replicate (n + 1) (1 : Int) = List.replicate n 1 ++ [1] := List.replicate_succ'
noncomputable def plainWt (ar : List Int) : Wt := if sigOk ar = true then ⟨1, List.replicate ar.length 1, upto ar.length⟩ else ⟨0, [], []⟩

/-- The struct under way: its cells, its two slices of its own, in different blocks. -/
structure PW (w1 wr : World) (A B : Option Addr) (cA cB : Nat) (xs ys : List Int) : Prop where
  c0 : wr.cell? ⟨w1.heap.size, 0, none⟩ = some (.int .i64 1)
  c1 : wr.cell? ⟨w1.heap.size, 1, none⟩ = some (.slice A xs.length cA)
  c2 : wr.cell? ⟨w1.heap.size, 2, none⟩ = some (.slice B ys.length cB)
  fr : ∀ j, wr.frozen? ⟨w1.heap.size, j, none⟩ = false
  oA : OwI wr (w1.heap.size + 1) A xs.length cA xs
  oB : OwI wr (w1.heap.size + 1) B ys.length cB ys
  ne : ∀ g o s, A = some ⟨g, o, s⟩ → ∀ g' o' s', B = some ⟨g', o', s'⟩ → g ≠ g'
  ex : Ext w1 wr
theorem PW.lt {w1 wr : World} {A B : Option Addr} {cA cB : Nat} {xs ys : List Int} (h : PW w1 wr A B cA cB xs ys) : w1.heap.size < wr.heap.size := World.block_lt_of_cell? wr _ h.c0
theorem OwI.ob {w : World} {D n c : Nat} {A : Option Addr} {xs : List Int} (h : OwI w D A n c xs) : ∀ k, (Value.slice A n c).ownBlock = some k → D ≤ k ∧ k < w.heap.size := by
  intro k hk
  cases A with
  | none => cases hk
  | some p => obtain ⟨g, o, s⟩ := p; cases hk; exact h.bd _ _ _ rfl
section
variable {w1 wr wx : World} {A B : Option Addr} {cA cB g cap : Nat} {xs ys : List Int} {x : Int} {o : Obj}
theorem PW.stepA (h : PW w1 wr A B cA cB xs ys) (hn : xs.length + 1 ≤ 4194304)
    (hown : wx.ownsRow (w1.heap.size + 1) 2 1 (.slice (some ⟨g, 0, none⟩) (xs.length + 1) cap) (xs.length + 1) (xs.map (Value.int .i64) ++ [.int .i64 x]))
    (hg : (wr.alloc o).grownBy wx (Value.slice A xs.length cA).ownBlock) (hat : (Value.slice A xs.length cA).ownBlock = some g ∨ g = (wr.alloc o).heap.size) (hlt : g < wx.heap.size) :
    PW w1 (wx.setCell ⟨w1.heap.size, 1, none⟩ (.slice (some ⟨g, 0, none⟩) (xs.length + 1) cap)) (some ⟨g, 0, none⟩) B cap cB (xs ++ [x]) ys := by
  have hlt1 := h.lt
  have hob := h.oA.ob
  have hsz : wr.heap.size < (wr.alloc o).heap.size := by simp [go_sem]
  have hne : ∀ k, (Value.slice A xs.length cA).ownBlock = some k → w1.heap.size + 1 ≤ k := fun k e => (hob k e).1
  have hgne : g ≠ w1.heap.size := by
    rcases hat with e | e
    · have := hne g e; omega
    · omega
  have hE1 : Ext wr (wr.alloc o) := Ext.alloc (Ext.refl _) o
  have hkeep : ∀ b, b < wr.heap.size → (Value.slice A xs.length cA).ownBlock ≠ some b → wx.heap[b]? = wr.heap[b]? := fun b hb hbn =>
    (hg.block b (by omega) (fun e => hbn e.symm)).trans (hE1.block b hb)
  have hk3 : wx.heap[w1.heap.size]? = wr.heap[w1.heap.size]? := hkeep _ hlt1 (fun e => by have := hne _ e; omega)
  have hx : ∀ j, wx.cell? ⟨w1.heap.size, j, none⟩ = wr.cell? ⟨w1.heap.size, j, none⟩ := fun j => World.cell?_of_block hk3
  have hf : ∀ j, wx.frozen? ⟨w1.heap.size, j, none⟩ = wr.frozen? ⟨w1.heap.size, j, none⟩ := fun j => World.frozen?_of_block hk3
  have hc1 : wx.cell? ⟨w1.heap.size, 1, none⟩ = some (.slice A xs.length cA) := (hx 1).trans h.c1
  have hf1 : wx.frozen? ⟨w1.heap.size, 1, none⟩ = false := (hf 1).trans (h.fr 1)
  have hExt : Ext w1 wx := Ext.grown (h.ex.alloc o) hg (fun k hk => by have := hne k hk; omega)
  refine ⟨?_, ?_, ?_, ?_, ?_, ?_, ?_, hExt.set (Nat.le_refl _) _⟩
  · rw [World.cell?_setCell_other _ _ _ _ (by simp), hx]; exact h.c0
  · rw [List.length_append]; simp [go_sem, hc1]
  · rw [World.cell?_setCell_other _ _ _ _ (by simp), hx]; exact h.c2
  · intro j; simp [go_sem, hf, h.fr]
  · refine OwI.setFar ?_ _ (fun g' o' s' e => by cases e; exact hgne)
    rw [List.length_append]
    exact ⟨hn, by simpa using hown⟩
  · refine OwI.setFar (OwI.heap h.oB fun g' e => hkeep g' ?_ (fun e' => ?_)) _ (fun g' o' s' e => ?_)
    · exact (h.oB.bd _ _ _ e).2
    · cases A with
      | none => cases e'
      | some p => obtain ⟨ga, oa, sa⟩ := p; cases e'; exact h.ne _ _ _ rfl _ _ _ e rfl
    · have := (h.oB.bd _ _ _ e).1; simp; omega
  · intro g' o' s' e gb ob sb eb
    cases e
    rcases hat with e | e
    · cases A with
      | none => cases e
      | some p => obtain ⟨ga, oa, sa⟩ := p; cases e; exact h.ne _ _ _ rfl _ _ _ eb
    · have := (h.oB.bd _ _ _ eb).2; omega
theorem PW.stepB (h : PW w1 wr A B cA cB xs ys) (hn : ys.length + 1 ≤ 4194304)
    (hown : wx.ownsRow (w1.heap.size + 1) 2 1 (.slice (some ⟨g, 0, none⟩) (ys.length + 1) cap) (ys.length + 1) (ys.map (Value.int .i64) ++ [.int .i64 x]))
    (hg : (wr.alloc o).grownBy wx (Value.slice B ys.length cB).ownBlock) (hat : (Value.slice B ys.length cB).ownBlock = some g ∨ g = (wr.alloc o).heap.size) (hlt : g < wx.heap.size) :
    PW w1 (wx.setCell ⟨w1.heap.size, 2, none⟩ (.slice (some ⟨g, 0, none⟩) (ys.length + 1) cap)) A (some ⟨g, 0, none⟩) cA cap xs (ys ++ [x]) := by
  have hlt1 := h.lt
  have hob := h.oB.ob
  have hsz : wr.heap.size < (wr.alloc o).heap.size := by simp [go_sem]
  have hne : ∀ k, (Value.slice B ys.length cB).ownBlock = some k → w1.heap.size + 1 ≤ k := fun k e => (hob k e).1
  have hgne : g ≠ w1.heap.size := by
    rcases hat with e | e
    · have := hne g e; omega
    · omega
  have hE1 : Ext wr (wr.alloc o) := Ext.alloc (Ext.refl _) o
  have hkeep : ∀ b, b < wr.heap.size → (Value.slice B ys.length cB).ownBlock ≠ some b → wx.heap[b]? = wr.heap[b]? := fun b hb hbn =>
    (hg.block b (by omega) (fun e => hbn e.symm)).trans (hE1.block b hb)
  have hk3 : wx.heap[w1.heap.size]? = wr.heap[w1.heap.size]? := hkeep _ hlt1 (fun e => by have := hne _ e; omega)
  have hx : ∀ j, wx.cell? ⟨w1.heap.size, j, none⟩ = wr.cell? ⟨w1.heap.size, j, none⟩ := fun j => World.cell?_of_block hk3
  have hf : ∀ j, wx.frozen? ⟨w1.heap.size, j, none⟩ = wr.frozen? ⟨w1.heap.size, j, none⟩ := fun j => World.frozen?_of_block hk3
  have hc1 : wx.cell? ⟨w1.heap.size, 2, none⟩ = some (.slice B ys.length cB) := (hx 2).trans h.c2
  have hExt : Ext w1 wx := Ext.grown (h.ex.alloc o) hg (fun k hk => by have := hne k hk; omega)
  refine ⟨?_, ?_, ?_, ?_, ?_, ?_, ?_, hExt.set (Nat.le_refl _) _⟩
  · rw [World.cell?_setCell_other _ _ _ _ (by simp), hx]; exact h.c0
  · rw [World.cell?_setCell_other _ _ _ _ (by simp), hx]; exact h.c1
  · rw [List.length_append]; simp [go_sem, hc1]
  · intro j; simp [go_sem, hf, h.fr]
  · refine OwI.setFar (OwI.heap h.oA fun g' e => hkeep g' ?_ (fun e' => ?_)) _ (fun g' o' s' e => ?_)
    · exact (h.oA.bd _ _ _ e).2
    · cases B with
      | none => cases e'
      | some p => obtain ⟨ga, oa, sa⟩ := p; cases e'; exact h.ne _ _ _ e _ _ _ rfl rfl
    · have := (h.oA.bd _ _ _ e).1; simp; omega
  · refine OwI.setFar ?_ _ (fun g' o' s' e => by cases e; exact hgne)
    rw [List.length_append]
    exact ⟨hn, by simpa using hown⟩
  · intro g' o' s' e gb ob sb eb
    cases eb
    rcases hat with e2 | e2
    · cases B with
      | none => cases e2
      | some p => obtain ⟨ga, oa, sa⟩ := p; cases e2; exact h.ne _ _ _ e _ _ _ rfl
    · have := (h.oA.bd _ _ _ e).2; omega
theorem PW.farA (h : PW w1 wr A B cA cB xs ys) (hg : (wr.alloc o).grownBy wx (Value.slice A xs.length cA).ownBlock) :
    (∀ j, wx.cell? ⟨w1.heap.size, j, none⟩ = wr.cell? ⟨w1.heap.size, j, none⟩) ∧ ∀ j, wx.frozen? ⟨w1.heap.size, j, none⟩ = false := by
  have hlt1 := h.lt
  have hsz : wr.heap.size < (wr.alloc o).heap.size := by simp [go_sem]
  have hk3 : wx.heap[w1.heap.size]? = wr.heap[w1.heap.size]? := (hg.block _ (by omega) (fun e => by have := h.oA.ob _ e.symm; omega)).trans ((Ext.alloc (Ext.refl wr) o).block _ hlt1)
  exact ⟨fun j => World.cell?_of_block hk3, fun j => (World.frozen?_of_block hk3).trans (h.fr j)⟩
theorem PW.farB (h : PW w1 wr A B cA cB xs ys) (hg : (wr.alloc o).grownBy wx (Value.slice B ys.length cB).ownBlock) :
    (∀ j, wx.cell? ⟨w1.heap.size, j, none⟩ = wr.cell? ⟨w1.heap.size, j, none⟩) ∧ ∀ j, wx.frozen? ⟨w1.heap.size, j, none⟩ = false := by
  have hlt1 := h.lt
  have hsz : wr.heap.size < (wr.alloc o).heap.size := by simp [go_sem]
  have hk3 : wx.heap[w1.heap.size]? = wr.heap[w1.heap.size]? := (hg.block _ (by omega) (fun e => by have := h.oB.ob _ e.symm; omega)).trans ((Ext.alloc (Ext.refl wr) o).block _ hlt1)
  exact ⟨fun j => World.cell?_of_block hk3, fun j => (World.frozen?_of_block hk3).trans (h.fr j)⟩
end


end Go.Proofs.Ytleahogikppepaa
