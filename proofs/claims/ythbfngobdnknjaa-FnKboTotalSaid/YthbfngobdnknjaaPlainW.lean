/- PlainWeights: two slices that grow by turns in one struct. -/
import Derived.Test.YthbfngobdnknjaaMark
import Derived.Test.YthbfngobdnknjaaWt
import Derived.Deep.AppendLies
-- rd: RdWt
namespace Go.Proofs.Ythbfngobdnknjaa
open Go.RowKit
set_option linter.unusedSimpArgs false
set_option linter.unusedVariables false

def upto (n : Nat) : List Int := (List.range n).map fun j : Nat => (j : Int)
theorem upto_len (n : Nat) : (upto n).length = n := by simp [upto]
theorem upto_succ (n : Nat) : upto (n + 1) = upto n ++ [(n : Int)] := by simp [upto, List.range_succ]
theorem ones_succ (n : Nat) : List.replicate (n + 1) (1 : Int) = List.replicate n 1 ++ [1] := List.replicate_succ'
noncomputable def plainWt (ar : List Int) : Wt := if sigOk ar = true then ⟨1, List.replicate ar.length 1, upto ar.length⟩ else ⟨0, [], []⟩

/-- The struct under way: its cells, its two slices of its own, in different blocks. -/
structure PW (w1 wr : World) (A B : Option Addr) (cA cB : Nat) (xs ys : List Int) : Prop where
  c0 : wr.cell? ⟨w1.heap.size, 0, none⟩ = some (.int .i64 1)
  c1 : wr.cell? ⟨w1.heap.size, 1, none⟩ = some (.slice A xs.length cA)
  c2 : wr.cell? ⟨w1.heap.size, 2, none⟩ = some (.slice B ys.length cB)
  fr : ∀ j, wr.frozen? ⟨w1.heap.size, j, none⟩ = false
  oA : OwI wr (w1.heap.size + 1) A xs.length cA xs
  oB : OwI wr (w1.heap.size + 1) B ys.length cB ys
  ne : ∀ g o s, A = some ⟨g, o, s⟩ → ∀ g' o' s', B = some ⟨g', o', s'⟩ → g ≠ g'
  ex : Ext w1 wr
theorem PW.lt {w1 wr : World} {A B : Option Addr} {cA cB : Nat} {xs ys : List Int} (h : PW w1 wr A B cA cB xs ys) : w1.heap.size < wr.heap.size := World.block_lt_of_cell? wr _ h.c0
theorem OwI.ob {w : World} {D n c : Nat} {A : Option Addr} {xs : List Int} (h : OwI w D A n c xs) : ∀ k, (Value.slice A n c).ownBlock = some k → D ≤ k ∧ k < w.heap.size := by
  intro k hk
  cases A with
  | none => cases hk
  | some p => obtain ⟨g, o, s⟩ := p; cases hk; exact h.bd _ _ _ rfl
section
variable {w1 wr wx : World} {A B : Option Addr} {cA cB g cap : Nat} {xs ys : List Int} {x : Int} {o : Obj}
theorem PW.stepA (h : PW w1 wr A B cA cB xs ys) (hn : xs.length + 1 ≤ 4194304)
    (hown : wx.ownsRow (w1.heap.size + 1) 2 1 (.slice (some ⟨g, 0, none⟩) (xs.length + 1) cap) (xs.length + 1) (xs.map (Value.int .i64) ++ [.int .i64 x]))
    (hg : (wr.alloc o).grownBy wx (Value.slice A xs.length cA).ownBlock) (hat : (Value.slice A xs.length cA).ownBlock = some g ∨ g = (wr.alloc o).heap.size) (hlt : g < wx.heap.size) :
    PW w1 (wx.setCell ⟨w1.heap.size, 1, none⟩ (.slice (some ⟨g, 0, none⟩) (xs.length + 1) cap)) (some ⟨g, 0, none⟩) B cap cB (xs ++ [x]) ys := by
  have hlt1 := h.lt
  have hob := h.oA.ob
  have hsz : wr.heap.size < (wr.alloc o).heap.size := by simp [go_sem]
  have hne : ∀ k, (Value.slice A xs.length cA).ownBlock = some k → w1.heap.size + 1 ≤ k := fun k e => (hob k e).1
  have hgne : g ≠ w1.heap.size := by
    rcases hat with e | e
    · have := hne g e; omega
    · omega
  have hE1 : Ext wr (wr.alloc o) := Ext.alloc (Ext.refl _) o
  have hkeep : ∀ b, b < wr.heap.size → (Value.slice A xs.length cA).ownBlock ≠ some b → wx.heap[b]? = wr.heap[b]? := fun b hb hbn =>
    (hg.block b (by omega) (fun e => hbn e.symm)).trans (hE1.block b hb)
  have hk3 : wx.heap[w1.heap.size]? = wr.heap[w1.heap.size]? := hkeep _ hlt1 (fun e => by have := hne _ e; omega)
  have hx : ∀ j, wx.cell? ⟨w1.heap.size, j, none⟩ = wr.cell? ⟨w1.heap.size, j, none⟩ := fun j => World.cell?_of_block hk3
  have hf : ∀ j, wx.frozen? ⟨w1.heap.size, j, none⟩ = wr.frozen? ⟨w1.heap.size, j, none⟩ := fun j => World.frozen?_of_block hk3
  have hc1 : wx.cell? ⟨w1.heap.size, 1, none⟩ = some (.slice A xs.length cA) := (hx 1).trans h.c1
  have hf1 : wx.frozen? ⟨w1.heap.size, 1, none⟩ = false := (hf 1).trans (h.fr 1)
  have hExt : Ext w1 wx := Ext.grown (h.ex.alloc o) hg (fun k hk => by have := hne k hk; omega)
  refine ⟨?_, ?_, ?_, ?_, ?_, ?_, ?_, hExt.set (Nat.le_refl _) _⟩
  · rw [World.cell?_setCell_other _ _ _ _ (by simp), hx]; exact h.c0
  · rw [List.length_append]; simp [go_sem, hc1]
  · rw [World.cell?_setCell_other _ _ _ _ (by simp), hx]; exact h.c2
  · intro j; simp [go_sem, hf, h.fr]
  · refine OwI.setFar ?_ _ (fun g' o' s' e => by cases e; exact hgne)
    rw [List.length_append]
    exact ⟨hn, by simpa using hown⟩
  · refine OwI.setFar (OwI.heap h.oB fun g' e => hkeep g' ?_ (fun e' => ?_)) _ (fun g' o' s' e => ?_)
    · exact (h.oB.bd _ _ _ e).2
    · cases A with
      | none => cases e'
      | some p => obtain ⟨ga, oa, sa⟩ := p; cases e'; exact h.ne _ _ _ rfl _ _ _ e rfl
    · have := (h.oB.bd _ _ _ e).1; simp; omega
  · intro g' o' s' e gb ob sb eb
    cases e
    rcases hat with e | e
    · cases A with
      | none => cases e
      | some p => obtain ⟨ga, oa, sa⟩ := p; cases e; exact h.ne _ _ _ rfl _ _ _ eb
    · have := (h.oB.bd _ _ _ eb).2; omega
theorem PW.stepB (h : PW w1 wr A B cA cB xs ys) (hn : ys.length + 1 ≤ 4194304)
    (hown : wx.ownsRow (w1.heap.size + 1) 2 1 (.slice (some ⟨g, 0, none⟩) (ys.length + 1) cap) (ys.length + 1) (ys.map (Value.int .i64) ++ [.int .i64 x]))
    (hg : (wr.alloc o).grownBy wx (Value.slice B ys.length cB).ownBlock) (hat : (Value.slice B ys.length cB).ownBlock = some g ∨ g = (wr.alloc o).heap.size) (hlt : g < wx.heap.size) :
    PW w1 (wx.setCell ⟨w1.heap.size, 2, none⟩ (.slice (some ⟨g, 0, none⟩) (ys.length + 1) cap)) A (some ⟨g, 0, none⟩) cA cap xs (ys ++ [x]) := by
  have hlt1 := h.lt
  have hob := h.oB.ob
  have hsz : wr.heap.size < (wr.alloc o).heap.size := by simp [go_sem]
  have hne : ∀ k, (Value.slice B ys.length cB).ownBlock = some k → w1.heap.size + 1 ≤ k := fun k e => (hob k e).1
  have hgne : g ≠ w1.heap.size := by
    rcases hat with e | e
    · have := hne g e; omega
    · omega
  have hE1 : Ext wr (wr.alloc o) := Ext.alloc (Ext.refl _) o
  have hkeep : ∀ b, b < wr.heap.size → (Value.slice B ys.length cB).ownBlock ≠ some b → wx.heap[b]? = wr.heap[b]? := fun b hb hbn =>
    (hg.block b (by omega) (fun e => hbn e.symm)).trans (hE1.block b hb)
  have hk3 : wx.heap[w1.heap.size]? = wr.heap[w1.heap.size]? := hkeep _ hlt1 (fun e => by have := hne _ e; omega)
  have hx : ∀ j, wx.cell? ⟨w1.heap.size, j, none⟩ = wr.cell? ⟨w1.heap.size, j, none⟩ := fun j => World.cell?_of_block hk3
  have hf : ∀ j, wx.frozen? ⟨w1.heap.size, j, none⟩ = wr.frozen? ⟨w1.heap.size, j, none⟩ := fun j => World.frozen?_of_block hk3
  have hc1 : wx.cell? ⟨w1.heap.size, 2, none⟩ = some (.slice B ys.length cB) := (hx 2).trans h.c2
  have hExt : Ext w1 wx := Ext.grown (h.ex.alloc o) hg (fun k hk => by have := hne k hk; omega)
  refine ⟨?_, ?_, ?_, ?_, ?_, ?_, ?_, hExt.set (Nat.le_refl _) _⟩
  · rw [World.cell?_setCell_other _ _ _ _ (by simp), hx]; exact h.c0
  · rw [World.cell?_setCell_other _ _ _ _ (by simp), hx]; exact h.c1
  · rw [List.length_append]; simp [go_sem, hc1]
  · intro j; simp [go_sem, hf, h.fr]
  · refine OwI.setFar (OwI.heap h.oA fun g' e => hkeep g' ?_ (fun e' => ?_)) _ (fun g' o' s' e => ?_)
    · exact (h.oA.bd _ _ _ e).2
    · cases B with
      | none => cases e'
      | some p => obtain ⟨ga, oa, sa⟩ := p; cases e'; exact h.ne _ _ _ e _ _ _ rfl rfl
    · have := (h.oA.bd _ _ _ e).1; simp; omega
  · refine OwI.setFar ?_ _ (fun g' o' s' e => by cases e; exact hgne)
    rw [List.length_append]
    exact ⟨hn, by simpa using hown⟩
  · intro g' o' s' e gb ob sb eb
    cases eb
    rcases hat with e2 | e2
    · cases B with
      | none => cases e2
      | some p => obtain ⟨ga, oa, sa⟩ := p; cases e2; exact h.ne _ _ _ e _ _ _ rfl
    · have := (h.oA.bd _ _ _ e).2; omega
theorem PW.farA (h : PW w1 wr A B cA cB xs ys) (hg : (wr.alloc o).grownBy wx (Value.slice A xs.length cA).ownBlock) :
    (∀ j, wx.cell? ⟨w1.heap.size, j, none⟩ = wr.cell? ⟨w1.heap.size, j, none⟩) ∧ ∀ j, wx.frozen? ⟨w1.heap.size, j, none⟩ = false := by
  have hlt1 := h.lt
  have hsz : wr.heap.size < (wr.alloc o).heap.size := by simp [go_sem]
  have hk3 : wx.heap[w1.heap.size]? = wr.heap[w1.heap.size]? := (hg.block _ (by omega) (fun e => by have := h.oA.ob _ e.symm; omega)).trans ((Ext.alloc (Ext.refl wr) o).block _ hlt1)
  exact ⟨fun j => World.cell?_of_block hk3, fun j => (World.frozen?_of_block hk3).trans (h.fr j)⟩
theorem PW.farB (h : PW w1 wr A B cA cB xs ys) (hg : (wr.alloc o).grownBy wx (Value.slice B ys.length cB).ownBlock) :
    (∀ j, wx.cell? ⟨w1.heap.size, j, none⟩ = wr.cell? ⟨w1.heap.size, j, none⟩) ∧ ∀ j, wx.frozen? ⟨w1.heap.size, j, none⟩ = false := by
  have hlt1 := h.lt
  have hsz : wr.heap.size < (wr.alloc o).heap.size := by simp [go_sem]
  have hk3 : wx.heap[w1.heap.size]? = wr.heap[w1.heap.size]? := (hg.block _ (by omega) (fun e => by have := h.oB.ob _ e.symm; omega)).trans ((Ext.alloc (Ext.refl wr) o).block _ hlt1)
  exact ⟨fun j => World.cell?_of_block hk3, fun j => (World.frozen?_of_block hk3).trans (h.fr j)⟩
end

set_option maxRecDepth 100000 in
set_option maxHeartbeats 2000000 in
theorem c_iPlainWeights {v0 : Value} {ar : List Int} {w : World} (h0 : RdSig w v0 ar) :
    Calls Try.prog 42 #[v0] w (NewWt w (plainWt ar)) := by
  obtain ⟨A0, n, c0, rfl, ha⟩ := h0
  have hn := ha.le
  have HA := Lib.hid ha
  have HL := Lib.hid ha.len
  clear ha
  obtain ⟨i0, hii, hiz, his, hib⟩ := info_parts int64_info
  cases hok : sigOk ar with
  | false =>
    have HR := Lib.hid (show plainWt ar = ⟨0, [], []⟩ by unfold plainWt; rw [hok]; rfl)
    go_enter Try.func42, Try.ntmps42
    go_wp2_with (go_at_call 81; (with_reducible refine (c_iSigOk (ar := ar) (by (first | (first | (with_reducible exact RdI.mk (RI.ext (Hid.out (by with_reducible assumption)) (by (repeat' (first | (with_reducible exact Ext.refl _) | (with_reducible assumption) | (with_reducible refine Ext.alloc ?_ _) | (with_reducible refine Ext.set ?_ ?_ _) | (with_reducible refine Ext.drewN ?_ _) | (with_reducible refine Ext.drew ?_) | (with_reducible refine Ext.trans ?_ (by with_reducible assumption)) | go_size))))) | (with_reducible exact RdI.ext (by with_reducible assumption) (by (repeat' (first | (with_reducible exact Ext.refl _) | (with_reducible assumption) | (with_reducible refine Ext.alloc ?_ _) | (with_reducible refine Ext.set ?_ ?_ _) | (with_reducible refine Ext.drewN ?_ _) | (with_reducible refine Ext.drew ?_) | (with_reducible refine Ext.trans ?_ (by with_reducible assumption)) | go_size))))) | (with_reducible exact RdWt.mk (by (first | (with_reducible exact RI.ext (Hid.out (by with_reducible assumption)) (by (repeat' (first | (with_reducible exact Ext.refl _) | (with_reducible assumption) | (with_reducible refine Ext.alloc ?_ _) | (with_reducible refine Ext.set ?_ ?_ _) | (with_reducible refine Ext.drewN ?_ _) | (with_reducible refine Ext.drew ?_) | (with_reducible refine Ext.trans ?_ (by with_reducible assumption)) | go_size)))))) (by (first | (with_reducible exact RI.ext (Hid.out (by with_reducible assumption)) (by (repeat' (first | (with_reducible exact Ext.refl _) | (with_reducible assumption) | (with_reducible refine Ext.alloc ?_ _) | (with_reducible refine Ext.set ?_ ?_ _) | (with_reducible refine Ext.drewN ?_ _) | (with_reducible refine Ext.drew ?_) | (with_reducible refine Ext.trans ?_ (by with_reducible assumption)) | go_size))))))) | (with_reducible exact RdWt.ext (by with_reducible assumption) (by (repeat' (first | (with_reducible exact Ext.refl _) | (with_reducible assumption) | (with_reducible refine Ext.alloc ?_ _) | (with_reducible refine Ext.set ?_ ?_ _) | (with_reducible refine Ext.drewN ?_ _) | (with_reducible refine Ext.drew ?_) | (with_reducible refine Ext.trans ?_ (by with_reducible assumption)) | go_size)))) | (with_reducible exact RdSig.mk (by (first | (with_reducible exact RI.ext (Hid.out (by with_reducible assumption)) (by (repeat' (first | (with_reducible exact Ext.refl _) | (with_reducible assumption) | (with_reducible refine Ext.alloc ?_ _) | (with_reducible refine Ext.set ?_ ?_ _) | (with_reducible refine Ext.drewN ?_ _) | (with_reducible refine Ext.drew ?_) | (with_reducible refine Ext.trans ?_ (by with_reducible assumption)) | go_size))))))) | (with_reducible exact RdSig.ext (by with_reducible assumption) (by (repeat' (first | (with_reducible exact Ext.refl _) | (with_reducible assumption) | (with_reducible refine Ext.alloc ?_ _) | (with_reducible refine Ext.set ?_ ?_ _) | (with_reducible refine Ext.drewN ?_ _) | (with_reducible refine Ext.drew ?_) | (with_reducible refine Ext.trans ?_ (by with_reducible assumption)) | go_size))))))).mono ?_); rintro e w1 ⟨rfl, hE1⟩; have hz1 := sz_of hE1; (try simp only [World.size_alloc, World.size_setCell, World.size_drew] at hz1); obtain ⟨hc1, hf1⟩ := bcell hE1; (try have hq1_0 : w.heap.size < w1.heap.size := by omega); (try have hq1_1 : w.heap.size + 1 < w1.heap.size := by omega); (try have hq1_2 : w.heap.size + 1 + 1 < w1.heap.size := by omega); (try have hq1_3 : w.heap.size + 1 + 1 + 1 < w1.heap.size := by omega); (try have hq1_4 : w.heap.size + 1 + 1 + 1 + 1 < w1.heap.size := by omega); (try have hq1_5 : w.heap.size + 1 + 1 + 1 + 1 + 1 < w1.heap.size := by omega))
    refine bodyPost_ret (v := .agg #[.int .i64 0, .slice none 0 0, .slice none 0 0]) (by simp [results, Try.results42, go_sem, hc1, hf1, hq1_0, hq1_1]) rfl ?_
    rw [HR.out]
    exact ⟨none, 0, 0, none, 0, 0, rfl, ⟨by omega, World.ownsRow_nil _ _ _ _⟩, ⟨by omega, World.ownsRow_nil _ _ _ _⟩, (fun g o s e => by cases e), by (repeat' (first | (with_reducible exact Ext.refl _) | (with_reducible assumption) | (with_reducible refine Ext.alloc ?_ _) | (with_reducible refine Ext.set ?_ ?_ _) | (with_reducible refine Ext.drewN ?_ _) | (with_reducible refine Ext.drew ?_) | (with_reducible refine Ext.trans ?_ (by with_reducible assumption)) | go_size))⟩
  | true =>
    have HR := Lib.hid (show plainWt ar = ⟨1, List.replicate n 1, upto n⟩ by unfold plainWt; rw [hok, HL.out]; rfl)
    go_enter Try.func42, Try.ntmps42
    go_wp2_with (go_at_call 81; (with_reducible refine (c_iSigOk (ar := ar) (by (first | (first | (with_reducible exact RdI.mk (RI.ext (Hid.out (by with_reducible assumption)) (by (repeat' (first | (with_reducible exact Ext.refl _) | (with_reducible assumption) | (with_reducible refine Ext.alloc ?_ _) | (with_reducible refine Ext.set ?_ ?_ _) | (with_reducible refine Ext.drewN ?_ _) | (with_reducible refine Ext.drew ?_) | (with_reducible refine Ext.trans ?_ (by with_reducible assumption)) | go_size))))) | (with_reducible exact RdI.ext (by with_reducible assumption) (by (repeat' (first | (with_reducible exact Ext.refl _) | (with_reducible assumption) | (with_reducible refine Ext.alloc ?_ _) | (with_reducible refine Ext.set ?_ ?_ _) | (with_reducible refine Ext.drewN ?_ _) | (with_reducible refine Ext.drew ?_) | (with_reducible refine Ext.trans ?_ (by with_reducible assumption)) | go_size))))) | (with_reducible exact RdWt.mk (by (first | (with_reducible exact RI.ext (Hid.out (by with_reducible assumption)) (by (repeat' (first | (with_reducible exact Ext.refl _) | (with_reducible assumption) | (with_reducible refine Ext.alloc ?_ _) | (with_reducible refine Ext.set ?_ ?_ _) | (with_reducible refine Ext.drewN ?_ _) | (with_reducible refine Ext.drew ?_) | (with_reducible refine Ext.trans ?_ (by with_reducible assumption)) | go_size)))))) (by (first | (with_reducible exact RI.ext (Hid.out (by with_reducible assumption)) (by (repeat' (first | (with_reducible exact Ext.refl _) | (with_reducible assumption) | (with_reducible refine Ext.alloc ?_ _) | (with_reducible refine Ext.set ?_ ?_ _) | (with_reducible refine Ext.drewN ?_ _) | (with_reducible refine Ext.drew ?_) | (with_reducible refine Ext.trans ?_ (by with_reducible assumption)) | go_size))))))) | (with_reducible exact RdWt.ext (by with_reducible assumption) (by (repeat' (first | (with_reducible exact Ext.refl _) | (with_reducible assumption) | (with_reducible refine Ext.alloc ?_ _) | (with_reducible refine Ext.set ?_ ?_ _) | (with_reducible refine Ext.drewN ?_ _) | (with_reducible refine Ext.drew ?_) | (with_reducible refine Ext.trans ?_ (by with_reducible assumption)) | go_size)))) | (with_reducible exact RdSig.mk (by (first | (with_reducible exact RI.ext (Hid.out (by with_reducible assumption)) (by (repeat' (first | (with_reducible exact Ext.refl _) | (with_reducible assumption) | (with_reducible refine Ext.alloc ?_ _) | (with_reducible refine Ext.set ?_ ?_ _) | (with_reducible refine Ext.drewN ?_ _) | (with_reducible refine Ext.drew ?_) | (with_reducible refine Ext.trans ?_ (by with_reducible assumption)) | go_size))))))) | (with_reducible exact RdSig.ext (by with_reducible assumption) (by (repeat' (first | (with_reducible exact Ext.refl _) | (with_reducible assumption) | (with_reducible refine Ext.alloc ?_ _) | (with_reducible refine Ext.set ?_ ?_ _) | (with_reducible refine Ext.drewN ?_ _) | (with_reducible refine Ext.drew ?_) | (with_reducible refine Ext.trans ?_ (by with_reducible assumption)) | go_size))))))).mono ?_); rintro e w1 ⟨rfl, hE1⟩; have hz1 := sz_of hE1; (try simp only [World.size_alloc, World.size_setCell, World.size_drew] at hz1); obtain ⟨hc1, hf1⟩ := bcell hE1; (try have hq1_0 : w.heap.size < w1.heap.size := by omega); (try have hq1_1 : w.heap.size + 1 < w1.heap.size := by omega); (try have hq1_2 : w.heap.size + 1 + 1 < w1.heap.size := by omega); (try have hq1_3 : w.heap.size + 1 + 1 + 1 < w1.heap.size := by omega); (try have hq1_4 : w.heap.size + 1 + 1 + 1 + 1 < w1.heap.size := by omega); (try have hq1_5 : w.heap.size + 1 + 1 + 1 + 1 + 1 < w1.heap.size := by omega))
    go_loopw [13] (fun i wr => ∃ k : Nat, i = .int .i64 k ∧ k ≤ n ∧ Hid (∃ A B cA cB, PW w1 wr A B cA cB (List.replicate k 1) (upto k))) (fun i _ => n - (intOf i).toNat)
    case atStart =>
      refine ⟨0, rfl, Nat.zero_le _, Lib.hid ⟨none, none, 0, 0, ?_⟩⟩
      exact ⟨by simp [go_sem], by simp [go_sem], by simp [go_sem, upto], fun j => by simp [go_sem], ⟨by simp, World.ownsRow_nil _ _ _ _⟩, ⟨by simp [upto], World.ownsRow_nil _ _ _ _⟩, (fun g o s e => by cases e), by (repeat' (first | (with_reducible exact Ext.refl _) | (with_reducible assumption) | (with_reducible refine Ext.alloc ?_ _) | (with_reducible refine Ext.set ?_ ?_ _) | (with_reducible refine Ext.drewN ?_ _) | (with_reducible refine Ext.drew ?_) | (with_reducible refine Ext.trans ?_ (by with_reducible assumption)) | go_size))⟩
    case round =>
      obtain ⟨k, rfl, hk, hP⟩ := hrel
      obtain ⟨A, B, cA, cB, P0⟩ := hP.out
      have hw : Ext w wr := by have := P0.ex; (repeat' (first | (with_reducible exact Ext.refl _) | (with_reducible assumption) | (with_reducible refine Ext.alloc ?_ _) | (with_reducible refine Ext.set ?_ ?_ _) | (with_reducible refine Ext.drewN ?_ _) | (with_reducible refine Ext.drew ?_) | (with_reducible refine Ext.trans ?_ (by with_reducible assumption)) | go_size))
      have hb0 : wr.cell? ⟨w.heap.size, 0, none⟩ = some (.slice A0 n c0) := Ext.keep P0.ex (by simp [go_sem, hc1, hq1_0])
      have c0' := P0.c0
      have c1' := P0.c1
      have c2' := P0.c2
      have f3 := P0.fr
      have hlt3 := P0.lt
      simp only [List.length_replicate, upto_len] at c1' c2'
      have HP := Lib.hid P0
      have HO := Lib.hid (show OwI wr (w1.heap.size + 1) A k cA (List.replicate k 1) by have := P0.oA; rwa [List.length_replicate] at this)
      clear hP P0
      by_cases hlt : k < n
      · go_wp2_with (at_builtin; go_loud (refine wpList_append_lies _ rfl (.tmp 17) (.tmp 18) 22 rfl (w1.heap.size + 1) 2 i0 (.int .i64 0) 1 8 Try.underlying22 hii hiz his hib rfl (by decide) _ _ _ rfl (OwI.alloc HO.out _).2 ⟨wr.heap.size, 0, none⟩ 1 1 [.int .i64 1] rfl rfl (one_cells _ _ _) (one_one _) (by decide) (by unfold maxLen; omega) (by omega) (by go_size) _ rfl ?_))
        intro g cap wx hown hg hat hltg
        have HF := Lib.hid (PW.farA HP.out (by rw [List.length_replicate]; exact hg))
        have hx0 : wx.cell? ⟨w1.heap.size, 1, none⟩ = some (.slice A k cA) := (HF.out.1 1).trans c1'
        have hx1 : wx.cell? ⟨w1.heap.size, 2, none⟩ = some (.slice B k cB) := (HF.out.1 2).trans c2'
        have hx2 : ∀ j, wx.frozen? ⟨w1.heap.size, j, none⟩ = false := HF.out.2
        have hP2 := PW.stepA HP.out (x := 1) (by rw [List.length_replicate]; omega) (by rw [List.length_replicate, List.map_replicate]; exact hown) (by rw [List.length_replicate]; exact hg) (by rw [List.length_replicate]; exact hat.imp id (fun e => e.trans (by simp [go_sem]))) hltg
        rw [List.length_replicate, ← ones_succ] at hP2
        have HO2 := Lib.hid (show OwI _ (w1.heap.size + 1) B k cB (upto k) by have := hP2.oB; rwa [upto_len] at this)
        have hlt4 := hP2.lt
        have HP2 := Lib.hid hP2
        have hwxs : w1.heap.size ≤ wx.heap.size := by have := hg.size; simp [go_sem] at this; omega
        clear hP2 hown hg hat
        go_wp2_with (at_builtin; go_loud (refine wpList_append_lies _ rfl (.tmp 22) (.tmp 24) 22 rfl (w1.heap.size + 1) 2 i0 (.int .i64 0) 1 8 Try.underlying22 hii hiz his hib rfl (by decide) _ _ _ rfl (OwI.alloc HO2.out _).2 ⟨wx.heap.size, 0, none⟩ 1 1 [.int .i64 k] rfl rfl (one_cells' (by simp [go_sem]) _ _) (one_one _) (by decide) (by unfold maxLen; omega) (by omega) (by go_size) _ rfl ?_))
        intro g2 cap2 wy hown2 hg2 hat2 hltg2
        have HF2 := Lib.hid (PW.farB HP2.out (by rw [upto_len]; exact hg2))
        have hy0 : wy.cell? ⟨w1.heap.size, 2, none⟩ = some (.slice B k cB) := (HF2.out.1 2).trans (by have := HP2.out.c2; rwa [upto_len] at this)
        have hy2 : ∀ j, wy.frozen? ⟨w1.heap.size, j, none⟩ = false := HF2.out.2
        have hP3 := PW.stepB HP2.out (x := (k : Int)) (by rw [upto_len]; omega) (by rw [upto_len]; exact hown2) (by rw [upto_len]; exact hg2) (by rw [upto_len]; exact hat2.imp id (fun e => e.trans (by simp [go_sem]))) hltg2
        rw [upto_len, ← upto_succ] at hP3
        have HP3 := Lib.hid hP3
        clear hP3 hown2 hg2 hat2
        go_wp2
        go_roundw
        case rel => exact ⟨k + 1, by go_num, by omega, Lib.hid ⟨_, _, _, _, HP3.out⟩⟩
        case measure => simp only [intOf]; omega
      · have hkn : k = n := by omega
        subst hkn
        have hr0 : wr.cell? ⟨w.heap.size + 1, 0, none⟩ = some (.int .i64 0) := Ext.keep HP.out.ex (by simp [go_sem, hc1, hq1_1])
        have hr1 : wr.cell? ⟨w.heap.size + 1, 1, none⟩ = some (.slice none 0 0) := Ext.keep HP.out.ex (by simp [go_sem, hc1, hq1_1])
        have hr2 : wr.cell? ⟨w.heap.size + 1, 2, none⟩ = some (.slice none 0 0) := Ext.keep HP.out.ex (by simp [go_sem, hc1, hq1_1])
        have hrf : ∀ j, wr.frozen? ⟨w.heap.size + 1, j, none⟩ = false := fun j => (Below.frozen (p := ⟨w.heap.size + 1, j, none⟩) HP.out.ex (by go_size)).trans (by simp [go_sem, hf1, hq1_1])
        go_wp2
        refine bodyPost_ret (v := .agg #[.int .i64 1, .slice A k cA, .slice B k cB]) (by simp [results, Try.results42, go_sem, hr0, hr1, hr2, hrf]) rfl ?_
        rw [HR.out]
        have oB : OwI wr (w1.heap.size + 1) B k cB (upto k) := by have := HP.out.oB; rwa [upto_len] at this
        have hA := HO.out.bd
        have hB := oB.bd
        refine ⟨A, k, cA, B, k, cB, rfl, OwI.setFar (OwI.setFar (OwI.setFar (HO.out.lower (by omega)) _ ?_) _ ?_) _ ?_, OwI.setFar (OwI.setFar (OwI.setFar (oB.lower (by omega)) _ ?_) _ ?_) _ ?_, HP.out.ne, by (repeat' (first | (with_reducible exact Ext.refl _) | (with_reducible assumption) | (with_reducible refine Ext.alloc ?_ _) | (with_reducible refine Ext.set ?_ ?_ _) | (with_reducible refine Ext.drewN ?_ _) | (with_reducible refine Ext.drew ?_) | (with_reducible refine Ext.trans ?_ (by with_reducible assumption)) | go_size))⟩
        all_goals intro g o s e
        all_goals first
          | (have := hA g o s e; simp; omega)
          | (have := hB g o s e; simp; omega)

end Go.Proofs.Ythbfngobdnknjaa
