/- What marks turn, by a range of blocks. -/
import Derived.Test.YtjfoppllenmndaaMark
import Derived.Test.YtjfoppllenmndaaPoly
-- rd: RdPl RdPs
namespace Go.Proofs.Ytjfoppllenmndaa
open Go.RowKit
set_option linter.unusedSimpArgs false
set_option linter.unusedVariables false

/-- Nothing has turned but blocks of a range and new memory. -/
structure Turn (lo hi : Nat) (w w' : World) : Prop where
  os : w'.os = w.os
  tape : w'.tape = w.tape
  output : w'.output = w.output
  size : w.heap.size ≤ w'.heap.size
  block : ∀ i, i < w.heap.size → (i < lo ∨ hi ≤ i) → w'.heap[i]? = w.heap[i]?
section
variable {lo hi : Nat} {a w w' w'' : World} {A : Option Addr} {n c D : Nat} {xs : List Int}
theorem Turn.refl (lo hi : Nat) (w : World) : Turn lo hi w w := ⟨rfl, rfl, rfl, Nat.le_refl _, fun _ _ _ => rfl⟩
theorem Turn.trans (h : Turn lo hi w w') (k : Turn lo hi w' w'') : Turn lo hi w w'' :=
  ⟨k.os.trans h.os, k.tape.trans h.tape, k.output.trans h.output, Nat.le_trans h.size k.size, fun i hi' ho => (k.block i (Nat.lt_of_lt_of_le hi' h.size) ho).trans (h.block i hi' ho)⟩
theorem Turn.of_ext (h : Ext w w') : Turn lo hi w w' := ⟨h.os, h.tape, h.output, h.size, fun i hi' _ => h.block i hi'⟩
theorem Turn.of_only (h : OnlyA w w' A) (hA : ∀ g o s, A = some ⟨g, o, s⟩ → lo ≤ g ∧ g < hi) : Turn lo hi w w' :=
  ⟨h.os, h.tape, h.output, h.size, fun i hi' ho => h.block i hi' (fun e => by
    cases A with
    | none => cases e
    | some p =>
      obtain ⟨g, o, s⟩ := p
      have e' : i = g := by simpa using e
      have := hA g o s rfl
      omega)⟩
theorem Turn.mono {lo' hi' : Nat} (h : Turn lo hi w w') (h1 : lo' ≤ lo) (h2 : hi ≤ hi') : Turn lo' hi' w w' := ⟨h.os, h.tape, h.output, h.size, fun i hi3 ho => h.block i hi3 (by omega)⟩
theorem Turn.set {p : Addr} {v : Value} (hp : lo ≤ p.block ∧ p.block < hi) : Turn lo hi w (w.setCell p v) :=
  ⟨rfl, rfl, rfl, by simp [World.setCell], fun i _ ho => Below.heap_setCell w p v i (fun e => by omega)⟩
theorem Turn.cell (h : Turn lo hi w w') {b o : Nat} (hb : b < w.heap.size) (ho : b < lo ∨ hi ≤ b) : w'.cell? ⟨b, o, none⟩ = w.cell? ⟨b, o, none⟩ := World.cell?_of_block (h.block b hb ho)
theorem Turn.keep (h : Turn lo hi w w') {b o : Nat} {v : Value} (hc : w.cell? ⟨b, o, none⟩ = some v) (ho : b < lo ∨ hi ≤ b) : w'.cell? ⟨b, o, none⟩ = some v :=
  (h.cell (World.block_lt_of_cell? w _ hc) ho).trans hc
theorem Turn.toExt (h : Turn lo hi w w') (ha : Ext a w) (hl : a.heap.size ≤ lo) : Ext a w' :=
  ⟨h.os.trans ha.os, h.tape.trans ha.tape, h.output.trans ha.output, Nat.le_trans ha.size h.size, fun k hk => (h.block k (by have := ha.size; omega) (.inl (by omega))).trans (ha.block k hk)⟩
theorem RI.turn (h : RI w A n xs) (k : Turn lo hi w w') (hd : ∀ g o s, A = some ⟨g, o, s⟩ → g < lo ∨ hi ≤ g) : RI w' A n xs :=
  ⟨h.1, fun hn => by
    obtain ⟨b, o, hB, hc⟩ := h.2 hn
    exact ⟨b, o, hB, fun j x hx => k.keep (hc j x hx) (hd _ _ _ hB)⟩⟩
theorem OwI.turn (h : OwI w D A n c xs) (k : Turn lo hi w w') (hd : ∀ g o s, A = some ⟨g, o, s⟩ → g < lo ∨ hi ≤ g) : OwI w' D A n c xs := by
  refine h.heap fun g hB => ?_
  rcases h.form with ⟨h0, _⟩ | ⟨g', hB', _, hlt⟩
  · rw [h0] at hB; cases hB
  · rw [hB'] at hB; cases hB
    exact k.block g hlt (hd _ _ _ hB')
end
set_option maxHeartbeats 1000000 in
theorem c_markInts {A : Option Addr} {n c B : Nat} {xs : List Int} {k : Int} {w : World} (h0 : OwI w B A n c xs) (hk : 0 ≤ k) (hk2 : k ≤ 1000000000000000) :
    Calls Try.prog 27 #[.slice A n c, .int .i64 k] w fun e w' => e = .returned (.int .i64 (k + n)) ∧ OwI w' B A n c (marks k n) ∧ OnlyA w w' A := by
  have hn := h0.le
  have hl := h0.len
  have H0 := Lib.hid h0
  have HL := Lib.hid hl
  clear h0 hl
  go_enter Try.func27, Try.ntmps27
  go_wp2
  go_loopw [1, 5] (fun x i wr => ∃ q : Nat, i = .int .i64 q ∧ q ≤ n ∧ x = .int .i64 (k + q) ∧ Hid (OwI wr B A n c (marks k q ++ xs.drop q)) ∧ Hid (OnlyA w wr A)) (fun _ i _ => n - (intOf i).toNat)
  case atStart => exact ⟨0, rfl, Nat.zero_le _, by simp, Lib.hid (by simpa [marks] using H0.out), Lib.hid (World.grownBy.refl w _)⟩
  case round =>
    obtain ⟨q, rfl, hq, rfl, hO, hG⟩ := hrel
    by_cases hlt : q < n
    · rcases hO.out.form with ⟨rfl, rfl, _⟩ | ⟨g, rfl, hg1, hg2⟩
      · omega
      · obtain ⟨x, _, hcx, hfx⟩ := hO.out.at_ hlt
        have HS := Lib.hid (marks_set (k := k) (xs := xs) (n := q) (by rw [HL.out]; exact hlt))
        have HN := Lib.hid (OwI.set hO.out q (k + (q : Int)))
        have HG := Lib.hid (Only.trans hG.out (Only.setCell wr g q (.int .i64 (k + (q : Int)))))
        go_wp2
        go_roundw
        case rel => exact ⟨q + 1, by go_num, by omega, by go_num, Lib.hid (by rw [← HS.out]; exact HN.out), HG⟩
        case measure => simp only [intOf]; omega
    · go_wp2
      go_ret
      have hqn : q = n := by omega
      subst hqn
      refine ⟨rfl, ?_, hG.out⟩
      have := hO.out
      rwa [List.drop_of_length_le (by rw [HL.out]; exact Nat.le_refl _), List.append_nil] at this
/-- Polynomials of the call's own, in blocks of a range: what marks need of them. -/
def OwPI (w : World) (lo hi : Nat) (A : Option Addr) (n : Nat) : Prop := n ≤ 4194304 ∧ ((A = none ∧ n = 0) ∨ ∃ (g : Nat) (cs : Array Value) (G : Nat → Option Addr) (L C : Nat → Nat), A = some ⟨g, 0, none⟩ ∧ lo ≤ g ∧ g < hi ∧ w.heap[g]? = some (.cells cs 86 (0, 0)) ∧ n * 2 ≤ cs.size ∧
  ∀ j, j < n → (∃ y : Int, cs[j * 2]? = some (.int .i64 y)) ∧ cs[j * 2 + 1]? = some (.slice (G j) (L j) (C j)) ∧ (∃ xs, OwI w lo (G j) (L j) (C j) xs) ∧ ∀ b o s, G j = some ⟨b, o, s⟩ → b < hi ∧ b ≠ g ∧ ∀ i, i < n → i ≠ j → ∀ b' o' s', G i = some ⟨b', o', s'⟩ → b ≠ b')
theorem OwPI.of {w : World} {B : Nat} {A : Option Addr} {n c : Nat} {ps : List Pl} (h : OwP w B A n c ps) : OwPI w B w.heap.size A n := by
  obtain ⟨⟨hl, hn⟩, h1⟩ := h
  refine ⟨hn, ?_⟩
  rcases h1 with ⟨h1, h2, _⟩ | ⟨g, cs, G, C, hA, hg, hh, hc, hG⟩
  · exact .inl ⟨h1, h2⟩
  · have hgl : g < w.heap.size := by
      rcases Nat.lt_or_ge g w.heap.size with h | h
      · exact h
      · rw [Array.getElem?_eq_none h] at hh; cases hh
    refine .inr ⟨g, cs, G, fun j => (ps.getD j ⟨0, []⟩).cf.length, C, hA, hg, hgl, hh, hc, fun j hj => ?_⟩
    have hp : ps[j]? = some (ps.getD j ⟨0, []⟩) := by rw [List.getD_eq_getElem?_getD, List.getElem?_eq_getElem (by omega)]; rfl
    obtain ⟨h1, h2, h3, h4⟩ := hG j _ hj hp
    exact ⟨⟨_, h1⟩, h2, ⟨_, h3⟩, fun b o s e => ⟨(h3.bd b o s e).2, h4 b o s e⟩⟩
theorem OwPI.ext {w w' : World} {lo hi : Nat} {A : Option Addr} {n : Nat} (h : OwPI w lo hi A n) (k : Ext w w') : OwPI w' lo hi A n := by
  obtain ⟨hn, h1⟩ := h
  refine ⟨hn, ?_⟩
  rcases h1 with h1 | ⟨g, cs, G, L, C, hA, hg, hg2, hh, hc, hG⟩
  · exact .inl h1
  · have hgl : g < w.heap.size := by
      rcases Nat.lt_or_ge g w.heap.size with h | h
      · exact h
      · rw [Array.getElem?_eq_none h] at hh; cases hh
    refine .inr ⟨g, cs, G, L, C, hA, hg, hg2, (k.block g hgl).trans hh, hc, fun j hj => ?_⟩
    obtain ⟨h1, h2, ⟨xs, h3⟩, h4⟩ := hG j hj
    exact ⟨h1, h2, ⟨xs, h3.ext k⟩, h4⟩
theorem OwPI.turn {w w' : World} {lo hi lo' hi' : Nat} {A : Option Addr} {n : Nat} (h : OwPI w lo hi A n) (k : Turn lo' hi' w w') (hd : hi ≤ lo' ∨ hi' ≤ lo) : OwPI w' lo hi A n := by
  obtain ⟨hn, h1⟩ := h
  refine ⟨hn, ?_⟩
  rcases h1 with h1 | ⟨g, cs, G, L, C, hA, hg, hg2, hh, hc, hG⟩
  · exact .inl h1
  · have hgl : g < w.heap.size := by
      rcases Nat.lt_or_ge g w.heap.size with h | h
      · exact h
      · rw [Array.getElem?_eq_none h] at hh; cases hh
    refine .inr ⟨g, cs, G, L, C, hA, hg, hg2, (k.block g hgl (by omega)).trans hh, hc, fun j hj => ?_⟩
    obtain ⟨h1, h2, ⟨xs, h3⟩, h4⟩ := hG j hj
    exact ⟨h1, h2, ⟨xs, h3.turn k fun b o s e => by have := (h3.bd b o s e).1; have := (h4 b o s e).1; omega⟩, h4⟩
/-- The state of the marks: the first ones are done. -/
def MarkSt (w1 wr : World) (lo hi g : Nat) (G : Nat → Option Addr) (L C : Nat → Nat) (n k : Nat) : Prop :=
  Turn lo hi w1 wr ∧ (∃ cs : Array Value, wr.heap[g]? = some (.cells cs 86 (0, 0)) ∧ n * 2 ≤ cs.size ∧ ∀ j, j < n → (∃ y : Int, cs[j * 2]? = some (.int .i64 y)) ∧ cs[j * 2 + 1]? = some (.slice (G j) (L j) (C j))) ∧ ∀ j, j < n → k ≤ j → ∃ xs, OwI wr lo (G j) (L j) (C j) xs
/-- The inner slices lie apart. -/
def Apart (hi g : Nat) (G : Nat → Option Addr) (n : Nat) : Prop := ∀ j, j < n → ∀ b o s, G j = some ⟨b, o, s⟩ → b < hi ∧ b ≠ g ∧ ∀ i, i < n → i ≠ j → ∀ b' o' s', G i = some ⟨b', o', s'⟩ → b ≠ b'
theorem MarkSt.step {w1 wr w5 : World} {lo hi g n q : Nat} {G : Nat → Option Addr} {L C : Nat → Nat} {y : Int} (hM : MarkSt w1 wr lo hi g G L C n q) (hlt : q < n) (hA : Apart hi g G n) (hg : lo ≤ g ∧ g < hi)
    (hO : OnlyA (wr.setCell ⟨g, q * 2, none⟩ (.int .i64 y)) w5 (G q)) : MarkSt w1 w5 lo hi g G L C n (q + 1) := by
  obtain ⟨hT, ⟨cs, hh, hc, hcs⟩, hrest⟩ := hM
  have hgl : g < wr.heap.size := (Array.getElem?_eq_some_iff.1 hh).1
  obtain ⟨xs, hOq⟩ := hrest q hlt (Nat.le_refl _)
  have hh1 : (wr.setCell ⟨g, q * 2, none⟩ (.int .i64 y)).heap[g]? = some (.cells (cs.setIfInBounds (q * 2) (.int .i64 y)) 86 (0, 0)) := by simp [World.setCell, Array.getElem?_modify, hh]
  refine ⟨(hT.trans (Turn.set hg)).trans (Turn.of_only hO fun b o s e => ⟨(hOq.bd b o s e).1, (hA q hlt b o s e).1⟩), ⟨cs.setIfInBounds (q * 2) (.int .i64 y), ?_, by simpa using hc, fun j hj => ?_⟩, fun j hj hjq => ?_⟩
  · refine (hO.block g (by simpa [World.setCell] using hgl) fun e => ?_).trans hh1
    cases hGq : G q with
    | none => rw [hGq] at e; cases e
    | some p =>
      obtain ⟨b, o, s⟩ := p
      rw [hGq] at e
      have e' : g = b := by simpa using e
      exact (hA q hlt b o s hGq).2.1 e'.symm
  · obtain ⟨⟨y0, e0⟩, e1⟩ := hcs j hj
    refine ⟨?_, by rw [Array.getElem?_setIfInBounds_ne (by omega)]; exact e1⟩
    by_cases hjq : q = j
    · subst hjq
      exact ⟨y, Array.getElem?_setIfInBounds_self_of_lt (by omega)⟩
    · exact ⟨y0, by rw [Array.getElem?_setIfInBounds_ne (by omega)]; exact e0⟩
  · obtain ⟨xj, hj1⟩ := hrest j hj (by omega)
    refine ⟨xj, (hj1.setFar _ fun b o s e => (hA j hj b o s e).2.1).onlyA hO fun b o s b' o' s' e e' => ?_⟩
    exact (hA j hj b' o' s' e').2.2 q hlt (by omega) b o s e
set_option maxRecDepth 100000 in
set_option maxHeartbeats 2000000 in
theorem c_markPolyS {A : Option Addr} {n c lo hi : Nat} {k0 : Int} {w : World} (h0 : OwPI w lo hi A n) (hk : 0 ≤ k0) (hk2 : k0 ≤ 1000000000000) :
    Calls Try.prog 38 #[.slice A n c, .int .i64 k0] w fun e w' => ∃ k1 : Int, e = .returned (.int .i64 k1) ∧ (k0 ≤ k1 ∧ k1 ≤ k0 + n * 4194305) ∧ Turn lo hi w w' := by
  obtain ⟨hn, h1⟩ := h0
  rcases h1 with ⟨rfl, rfl⟩ | ⟨g, cs, G, L, C, rfl, hg, hg2, hh, hc, hG⟩
  · go_enter Try.func38, Try.ntmps38
    go_wp2
    go_loopw [1, 5] (fun x i wr => i = .int .i64 0 ∧ x = .int .i64 k0 ∧ wr = w) (fun _ i _ => 0)
    case atStart => exact ⟨rfl, rfl, rfl⟩
    case round =>
      obtain ⟨rfl, rfl, rfl⟩ := hrel
      go_wp2
      go_ret
      exact ⟨k0, rfl, by omega, Turn.refl _ _ _⟩
  · have HAP := Lib.hid (show Apart hi g G n from fun j hj => (hG j hj).2.2.2)
    have HM := Lib.hid (show MarkSt w w lo hi g G L C n 0 from ⟨Turn.refl _ _ _, ⟨cs, hh, hc, fun j hj => ⟨(hG j hj).1, (hG j hj).2.1⟩⟩, fun j hj _ => (hG j hj).2.2.1⟩)
    clear hG hh hc
    go_enter Try.func38, Try.ntmps38
    go_wp2
    go_loopw [1, 5] (fun x i wr => ∃ q : Nat, i = .int .i64 q ∧ q ≤ n ∧ (∃ y : Int, x = .int .i64 y ∧ k0 ≤ y ∧ y ≤ k0 + q * 4194305) ∧ Hid (MarkSt w wr lo hi g G L C n q)) (fun _ i _ => n - (intOf i).toNat)
    case atStart => exact ⟨0, rfl, Nat.zero_le _, ⟨k0, rfl, by omega, by omega⟩, HM⟩
    case round =>
      obtain ⟨q, rfl, hq, ⟨y, rfl, hy1, hy2⟩, hM⟩ := hrel
      by_cases hlt : q < n
      · obtain ⟨hT, ⟨cs, hh, hc, hcs⟩, hrest⟩ := hM.out
        obtain ⟨⟨y0, e0⟩, e1⟩ := hcs q hlt
        obtain ⟨xs, hO⟩ := hrest q hlt (Nat.le_refl _)
        have hc0 : wr.cell? ⟨g, q * 2, none⟩ = some (.int .i64 y0) := by rw [cell_of_row wr g _ cs _ (0, 0) hh]; exact e0
        have hc1 : wr.cell? ⟨g, q * 2 + 1, none⟩ = some (.slice (G q) (L q) (C q)) := by rw [cell_of_row wr g _ cs _ (0, 0) hh]; exact e1
        have hLq := hO.le
        have hbdq := hO.bd
        have hlt' : (q : Int) < (n : Int) := by omega
        have hq0 : (0 : Int) ≤ (q : Int) := by omega
        have hc1f : ∀ i, wr.frozen? ⟨g, i, none⟩ = false := fun i => frozen_of_row wr _ _ cs _ hh
        have hgl : g < wr.heap.size := (Array.getElem?_eq_some_iff.1 hh).1
        have hy3 : IntKind.i64.wrap (y + 1) = y + 1 := IntWalk.i64_in _ (by omega)
        have HOQ := Lib.hid (hO.setFar (.int .i64 y) (p := ⟨g, q * 2, none⟩) fun b o s e => (HAP.out q hlt b o s e).2.1)
        clear hT hh hc hcs hrest hO hbdq e0 e1
        go_wp2_with fail
        (with_reducible refine (c_markInts (B := lo) (xs := xs) HOQ.out (by omega) (by omega)).mono ?_)
        rintro e5 w5 ⟨rfl, _, hO5⟩
        have HN := Lib.hid (hM.out.step hlt HAP.out ⟨hg, hg2⟩ hO5)
        clear hO5
        go_wp2
        go_roundw
        case rel => exact ⟨q + 1, by go_num, by omega, ⟨_, rfl, by omega, by omega⟩, HN⟩
        case measure => simp only [intOf]; omega
      · go_wp2
        go_ret
        have hqn : q = n := by omega
        subst hqn
        exact ⟨y, rfl, ⟨hy1, hy2⟩, hM.out.1⟩

end Go.Proofs.Ytjfoppllenmndaa
