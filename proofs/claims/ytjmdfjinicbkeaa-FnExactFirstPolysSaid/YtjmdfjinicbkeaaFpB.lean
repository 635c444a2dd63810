/- Several texts in one: MarkT, SizeP, SizeQ, MarkP, MarkSy. -/
import Derived.Test.YtjmdfjinicbkeaaTurn
import Derived.Test.YtjmdfjinicbkeaaPoly
import Derived.Test.YtjmdfjinicbkeaaFormD
import Derived.Test.YtjmdfjinicbkeaaSig
import Derived.Test.YtjmdfjinicbkeaaPG
import Derived.Test.YtjmdfjinicbkeaaSys
-- rd: RdPl RdPs RdSyK RawSy
namespace Go.Proofs.Ytjmdfjinicbkeaa
open Go.RowKit
set_option linter.unusedSimpArgs false
set_option linter.unusedVariables false

/-! What marks turn, by a range of blocks. -/
/-- Polynomials of the call's own, in blocks of a range: what marks need of them. -/
def OwPI (w : World) (lo hi : Nat) (A : Option Addr) (n : Nat) : Prop := n ≤ 4194304 ∧ ((A = none ∧ n = 0) ∨ ∃ (g : Nat) (cs : Array Value) (G : Nat → Option Addr) (L C : Nat → Nat), A = some ⟨g, 0, none⟩ ∧ lo ≤ g ∧ g < hi ∧ w.heap[g]? = some (.cells cs 90 (0, 0)) ∧ n * 2 ≤ cs.size ∧
  ∀ j, j < n → (∃ y : Int, cs[j * 2]? = some (.int .i64 y)) ∧ cs[j * 2 + 1]? = some (.slice (G j) (L j) (C j)) ∧ (∃ xs, OwI w lo (G j) (L j) (C j) xs) ∧ ∀ b o s, G j = some ⟨b, o, s⟩ → b < hi ∧ b ≠ g ∧ ∀ i, i < n → i ≠ j → ∀ b' o' s', G i = some ⟨b', o', s'⟩ → b ≠ b')
theorem OwPI.of {w : World} {B : Nat} {A : Option Addr} {n c : Nat} {ps : List Pl} (h : OwP w B A n c ps) : OwPI w B w.heap.size A n := by
  obtain ⟨⟨hl, hn⟩, h1⟩ := h
  refine ⟨hn, ?_⟩
  rcases h1 with ⟨h1, h2, _⟩ | ⟨g, cs, G, C, hA, hg, hh, hc, hG⟩
  · exact .inl ⟨h1, h2⟩
  · have hgl : g < w.heap.size := by
      rcases Nat.lt_or_ge g w.heap.size with h | h
      · exact h
      · rw [Array.getElem?_eq_none h] at hh; cases hh
    refine .inr ⟨g, cs, G, fun j => (ps.getD j ⟨0, []⟩).cf.length, C, hA, hg, hgl, hh, hc, fun j hj => ?_⟩
    have hp : ps[j]? = some (ps.getD j ⟨0, []⟩) := by rw [List.getD_eq_getElem?_getD, List.getElem?_eq_getElem (by omega)]; rfl
    obtain ⟨h1, h2, h3, h4⟩ := hG j _ hj hp
    exact ⟨⟨_, h1⟩, h2, ⟨_, h3⟩, fun b o s e => ⟨(h3.bd b o s e).2, h4 b o s e⟩⟩
theorem OwPI.ext {w w' : World} {lo hi : Nat} {A : Option Addr} {n : Nat} (h : OwPI w lo hi A n) (k : Ext w w') : OwPI w' lo hi A n := by
  obtain ⟨hn, h1⟩ := h
  refine ⟨hn, ?_⟩
  rcases h1 with h1 | ⟨g, cs, G, L, C, hA, hg, hg2, hh, hc, hG⟩
  · exact .inl h1
  · have hgl : g < w.heap.size := by
      rcases Nat.lt_or_ge g w.heap.size with h | h
      · exact h
      · rw [Array.getElem?_eq_none h] at hh; cases hh
    refine .inr ⟨g, cs, G, L, C, hA, hg, hg2, (k.block g hgl).trans hh, hc, fun j hj => ?_⟩
    obtain ⟨h1, h2, ⟨xs, h3⟩, h4⟩ := hG j hj
    exact ⟨h1, h2, ⟨xs, h3.ext k⟩, h4⟩
theorem OwPI.turn {w w' : World} {lo hi lo' hi' : Nat} {A : Option Addr} {n : Nat} (h : OwPI w lo hi A n) (k : Turn lo' hi' w w') (hd : hi ≤ lo' ∨ hi' ≤ lo) : OwPI w' lo hi A n := by
  obtain ⟨hn, h1⟩ := h
  refine ⟨hn, ?_⟩
  rcases h1 with h1 | ⟨g, cs, G, L, C, hA, hg, hg2, hh, hc, hG⟩
  · exact .inl h1
  · have hgl : g < w.heap.size := by
      rcases Nat.lt_or_ge g w.heap.size with h | h
      · exact h
      · rw [Array.getElem?_eq_none h] at hh; cases hh
    refine .inr ⟨g, cs, G, L, C, hA, hg, hg2, (k.block g hgl (by omega)).trans hh, hc, fun j hj => ?_⟩
    obtain ⟨h1, h2, ⟨xs, h3⟩, h4⟩ := hG j hj
    exact ⟨h1, h2, ⟨xs, h3.turn k fun b o s e => by have := (h3.bd b o s e).1; have := (h4 b o s e).1; omega⟩, h4⟩
/-- The state of the marks: the first ones are done. -/
def MarkSt (w1 wr : World) (lo hi g : Nat) (G : Nat → Option Addr) (L C : Nat → Nat) (n k : Nat) : Prop :=
  Turn lo hi w1 wr ∧ (∃ cs : Array Value, wr.heap[g]? = some (.cells cs 90 (0, 0)) ∧ n * 2 ≤ cs.size ∧ ∀ j, j < n → (∃ y : Int, cs[j * 2]? = some (.int .i64 y)) ∧ cs[j * 2 + 1]? = some (.slice (G j) (L j) (C j))) ∧ ∀ j, j < n → k ≤ j → ∃ xs, OwI wr lo (G j) (L j) (C j) xs
/-- The inner slices lie apart. -/
def Apart (hi g : Nat) (G : Nat → Option Addr) (n : Nat) : Prop := ∀ j, j < n → ∀ b o s, G j = some ⟨b, o, s⟩ → b < hi ∧ b ≠ g ∧ ∀ i, i < n → i ≠ j → ∀ b' o' s', G i = some ⟨b', o', s'⟩ → b ≠ b'
theorem MarkSt.step {w1 wr w5 : World} {lo hi g n q : Nat} {G : Nat → Option Addr} {L C : Nat → Nat} {y : Int} (hM : MarkSt w1 wr lo hi g G L C n q) (hlt : q < n) (hA : Apart hi g G n) (hg : lo ≤ g ∧ g < hi)
    (hO : OnlyA (wr.setCell ⟨g, q * 2, none⟩ (.int .i64 y)) w5 (G q)) : MarkSt w1 w5 lo hi g G L C n (q + 1) := by
  obtain ⟨hT, ⟨cs, hh, hc, hcs⟩, hrest⟩ := hM
  have hgl : g < wr.heap.size := (Array.getElem?_eq_some_iff.1 hh).1
  obtain ⟨xs, hOq⟩ := hrest q hlt (Nat.le_refl _)
  have hh1 : (wr.setCell ⟨g, q * 2, none⟩ (.int .i64 y)).heap[g]? = some (.cells (cs.setIfInBounds (q * 2) (.int .i64 y)) 90 (0, 0)) := by simp [World.setCell, Array.getElem?_modify, hh]
  refine ⟨(hT.trans (Turn.set hg)).trans (Turn.of_only hO fun b o s e => ⟨(hOq.bd b o s e).1, (hA q hlt b o s e).1⟩), ⟨cs.setIfInBounds (q * 2) (.int .i64 y), ?_, by simpa using hc, fun j hj => ?_⟩, fun j hj hjq => ?_⟩
  · refine (hO.block g (by simpa [World.setCell] using hgl) fun e => ?_).trans hh1
    cases hGq : G q with
    | none => rw [hGq] at e; cases e
    | some p =>
      obtain ⟨b, o, s⟩ := p
      rw [hGq] at e
      have e' : g = b := by simpa using e
      exact (hA q hlt b o s hGq).2.1 e'.symm
  · obtain ⟨⟨y0, e0⟩, e1⟩ := hcs j hj
    refine ⟨?_, by rw [Array.getElem?_setIfInBounds_ne (by omega)]; exact e1⟩
    by_cases hjq : q = j
    · subst hjq
      exact ⟨y, Array.getElem?_setIfInBounds_self_of_lt (by omega)⟩
    · exact ⟨y0, by rw [Array.getElem?_setIfInBounds_ne (by omega)]; exact e0⟩
  · obtain ⟨xj, hj1⟩ := hrest j hj (by omega)
    refine ⟨xj, (hj1.setFar _ fun b o s e => (hA j hj b o s e).2.1).onlyA hO fun b o s b' o' s' e e' => ?_⟩
    exact (hA j hj b' o' s' e').2.2 q hlt (by omega) b o s e
set_option maxRecDepth 100000 in
set_option maxHeartbeats 2000000 in
theorem c_markPolyS {A : Option Addr} {n c lo hi : Nat} {k0 : Int} {w : World} (h0 : OwPI w lo hi A n) (hk : 0 ≤ k0) (hk2 : k0 ≤ 1000000000000) :
    Calls Try.prog 22 #[.slice A n c, .int .i64 k0] w fun e w' => ∃ k1 : Int, e = .returned (.int .i64 k1) ∧ (k0 ≤ k1 ∧ k1 ≤ k0 + n * 4194305) ∧ Turn lo hi w w' := by
  obtain ⟨hn, h1⟩ := h0
  rcases h1 with ⟨rfl, rfl⟩ | ⟨g, cs, G, L, C, rfl, hg, hg2, hh, hc, hG⟩
  · go_enter Try.func22, Try.ntmps22
    go_wp2
    go_loopw [1, 5] (fun x i wr => i = .int .i64 0 ∧ x = .int .i64 k0 ∧ wr = w) (fun _ i _ => 0)
    case atStart => exact ⟨rfl, rfl, rfl⟩
    case round =>
      obtain ⟨rfl, rfl, rfl⟩ := hrel
      go_wp2
      go_ret
      exact ⟨k0, rfl, by omega, Turn.refl _ _ _⟩
  · have HAP := Lib.hid (show Apart hi g G n from fun j hj => (hG j hj).2.2.2)
    have HM := Lib.hid (show MarkSt w w lo hi g G L C n 0 from ⟨Turn.refl _ _ _, ⟨cs, hh, hc, fun j hj => ⟨(hG j hj).1, (hG j hj).2.1⟩⟩, fun j hj _ => (hG j hj).2.2.1⟩)
    clear hG hh hc
    go_enter Try.func22, Try.ntmps22
    go_wp2
    go_loopw [1, 5] (fun x i wr => ∃ q : Nat, i = .int .i64 q ∧ q ≤ n ∧ (∃ y : Int, x = .int .i64 y ∧ k0 ≤ y ∧ y ≤ k0 + q * 4194305) ∧ Hid (MarkSt w wr lo hi g G L C n q)) (fun _ i _ => n - (intOf i).toNat)
    case atStart => exact ⟨0, rfl, Nat.zero_le _, ⟨k0, rfl, by omega, by omega⟩, HM⟩
    case round =>
      obtain ⟨q, rfl, hq, ⟨y, rfl, hy1, hy2⟩, hM⟩ := hrel
      by_cases hlt : q < n
      · obtain ⟨hT, ⟨cs, hh, hc, hcs⟩, hrest⟩ := hM.out
        obtain ⟨⟨y0, e0⟩, e1⟩ := hcs q hlt
        obtain ⟨xs, hO⟩ := hrest q hlt (Nat.le_refl _)
        have hc0 : wr.cell? ⟨g, q * 2, none⟩ = some (.int .i64 y0) := by rw [cell_of_row wr g _ cs _ (0, 0) hh]; exact e0
        have hc1 : wr.cell? ⟨g, q * 2 + 1, none⟩ = some (.slice (G q) (L q) (C q)) := by rw [cell_of_row wr g _ cs _ (0, 0) hh]; exact e1
        have hLq := hO.le
        have hbdq := hO.bd
        have hlt' : (q : Int) < (n : Int) := by omega
        have hq0 : (0 : Int) ≤ (q : Int) := by omega
        have hc1f : ∀ i, wr.frozen? ⟨g, i, none⟩ = false := fun i => frozen_of_row wr _ _ cs _ hh
        have hgl : g < wr.heap.size := (Array.getElem?_eq_some_iff.1 hh).1
        have hy3 : IntKind.i64.wrap (y + 1) = y + 1 := IntWalk.i64_in _ (by omega)
        have HOQ := Lib.hid (hO.setFar (.int .i64 y) (p := ⟨g, q * 2, none⟩) fun b o s e => (HAP.out q hlt b o s e).2.1)
        clear hT hh hc hcs hrest hO hbdq e0 e1
        go_wp2_with fail
        (with_reducible refine (c_markInts (B := lo) (xs := xs) HOQ.out (by omega) (by omega)).mono ?_)
        rintro e5 w5 ⟨rfl, _, hO5⟩
        have HN := Lib.hid (hM.out.step hlt HAP.out ⟨hg, hg2⟩ hO5)
        clear hO5
        go_wp2
        go_roundw
        case rel => exact ⟨q + 1, by go_num, by omega, ⟨_, rfl, by omega, by omega⟩, HN⟩
        case measure => simp only [intOf]; omega
      · go_wp2
        go_ret
        have hqn : q = n := by omega
        subst hqn
        exact ⟨y, rfl, ⟨hy1, hy2⟩, hM.out.1⟩

/-! SizePolys of both. -/
/-- The blocks of the factors of some polynomials. -/
def blkAt (vs : List Value) (j : Nat) : Option Nat := match vs[j * 2 + 1]? with | some (.slice (some a) _ _) => some a.block | _ => none
/-- A growing slice of polynomials of the call's own, their factors in blocks apart, all but the row's own below a bound. -/
def OwD (w : World) (B top : Nat) (A : Option Addr) (n c : Nat) (fs : List Pl) : Prop :=
  (n ≤ 4194304 ∧ fs.length = n) ∧ ∃ vs, w.ownsRow B 90 2 (.slice A n c) n vs ∧ (∀ (j : Nat) (f : Pl), fs[j]? = some f →
    vs[j * 2]? = some (.int .i64 f.c) ∧ ∃ A' c', vs[j * 2 + 1]? = some (.slice A' f.cf.length c') ∧ OwI w B A' f.cf.length c' f.cf ∧ ∀ b o s, A' = some ⟨b, o, s⟩ → (Value.slice A n c).ownBlock ≠ some b) ∧
    ∀ j b, j < n → blkAt vs j = some b → b < top ∧ ∀ i, i < n → i ≠ j → blkAt vs i ≠ some b
theorem OwD.q {w : World} {B top n c : Nat} {A : Option Addr} {fs : List Pl} (h : OwD w B top A n c fs) : OwQ w B A n c fs := by
  obtain ⟨h1, vs, h2, h3, _⟩ := h; exact ⟨h1, vs, h2, h3⟩
theorem OwD.nil (w : World) (B top : Nat) : OwD w B top none 0 0 [] := ⟨⟨by omega, rfl⟩, [], World.ownsRow_nil _ _ _ _, fun j f h => by simp at h, fun j b h => by omega⟩
theorem OwD.mono {w : World} {B top top' n c : Nat} {A : Option Addr} {fs : List Pl} (h : OwD w B top A n c fs) (ht : top ≤ top') : OwD w B top' A n c fs := by
  obtain ⟨h1, vs, h2, h3, h4⟩ := h
  exact ⟨h1, vs, h2, h3, fun j b hj hb => by have := h4 j b hj hb; exact ⟨by omega, this.2⟩⟩
theorem OwD.ext {w w' : World} {B top n c : Nat} {A : Option Addr} {fs : List Pl} (h : OwD w B top A n c fs) (k : Ext w w') : OwD w' B top A n c fs := by
  obtain ⟨h1, vs, ho, hf, hd⟩ := h
  refine ⟨h1, vs, ⟨ho.1, ?_⟩, fun j f hj => ?_, hd⟩
  · rcases ho.2 with h2 | ⟨g, cap, cur, hv, hg, hh, r⟩
    · exact .inl h2
    · exact .inr ⟨g, cap, cur, hv, hg, (k.block g (Array.getElem?_eq_some_iff.1 hh).1).trans hh, r⟩
  · obtain ⟨e1, A', c', e2, e3, e4⟩ := hf j f hj
    exact ⟨e1, A', c', e2, e3.ext k, e4⟩
theorem blkAt_left {vs ws : List Value} {j : Nat} (h : j * 2 + 1 < vs.length) : blkAt (vs ++ ws) j = blkAt vs j := by
  unfold blkAt; rw [List.getElem?_append_left h]
/-- One more, its factors in a block behind the bound. -/
theorem OwD.push {w wx : World} {B top top' n c g cap : Nat} {A A' : Option Addr} {c' : Nat} {fs : List Pl} {f : Pl} {o : Obj} (h : OwD w B top A n c fs) (h1 : n + 1 ≤ 4194304) (hO : OwI w B A' f.cf.length c' f.cf) (hnew : ∀ b o s, A' = some ⟨b, o, s⟩ → top ≤ b ∧ b < top') (htop : top ≤ top')
    (hfar : ∀ b o s, A' = some ⟨b, o, s⟩ → (Value.slice A n c).ownBlock ≠ some b)
    (hown : ∀ vs, w.ownsRow B 90 2 (.slice A n c) n vs → wx.ownsRow B 90 2 (.slice (some ⟨g, 0, none⟩) (n + 1) cap) (n + 1) (vs ++ [.int .i64 f.c, .slice A' f.cf.length c']))
    (hg : (w.alloc o).grownBy wx (Value.slice A n c).ownBlock) (hat : (Value.slice A n c).ownBlock = some g ∨ g = (w.alloc o).heap.size) :
    OwD wx B top' (some ⟨g, 0, none⟩) (n + 1) cap (fs ++ [f]) := by
  obtain ⟨⟨hn, hl⟩, vs, ho, hf, hd⟩ := h
  have hvl : vs.length = n * 2 := ho.1
  have hq := OwQ.push (w := w) h1 hl hvl hf hO hfar (hown vs ho) hg hat
  obtain ⟨k1, us, k2, k3⟩ := hq
  have hus : us = vs ++ [.int .i64 f.c, .slice A' f.cf.length c'] := by
    rcases k2.2 with ⟨e, _⟩ | ⟨g1, cap1, cur1, e1, _, hh1, _, _, _, ht1⟩
    · cases e
    · rcases (hown vs ho).2 with ⟨e, _⟩ | ⟨g2, cap2, cur2, e2, _, hh2, _, _, _, ht2⟩
      · cases e
      · cases e1; cases e2
        rw [hh1] at hh2; cases hh2
        rw [← ht1, ht2]
  subst hus
  have hlast : blkAt (vs ++ [.int .i64 f.c, .slice A' f.cf.length c']) n = A'.map (·.block) := by
    unfold blkAt
    rw [List.getElem?_append_right (by omega), hvl, show n * 2 + 1 - n * 2 = 1 by omega]
    cases A' <;> rfl
  refine ⟨k1, _, k2, k3, fun j b hj hb => ?_⟩
  rcases Nat.lt_or_ge j n with hjn | hjn
  · rw [blkAt_left (by omega)] at hb
    have h5 := hd j b hjn hb
    refine ⟨by omega, fun i hi hij => ?_⟩
    rcases Nat.lt_or_ge i n with hin | hin
    · rw [blkAt_left (by omega)]; exact h5.2 i hin hij
    · obtain rfl : i = n := by omega
      rw [hlast]
      cases A' with
      | none => simp
      | some p => obtain ⟨b2, o2, s2⟩ := p; have := (hnew b2 o2 s2 rfl).1; simp; omega
  · obtain rfl : j = n := by omega
    rw [hlast] at hb
    cases A' with
    | none => cases hb
    | some p =>
      obtain ⟨b2, o2, s2⟩ := p
      have h6 := hnew b2 o2 s2 rfl
      have hbb : b2 = b := by simpa using hb
      subst hbb
      refine ⟨h6.2, fun i hi hij => ?_⟩
      rw [blkAt_left (by omega)]
      intro e
      have := (hd i b2 (by omega) e).1
      omega
def adA (vs : List Value) (j : Nat) : Option Addr := match vs[j * 2 + 1]? with | some (.slice a _ _) => a | _ => none
def adC (vs : List Value) (j : Nat) : Nat := match vs[j * 2 + 1]? with | some (.slice _ _ c) => c | _ => 0
theorem adA_of {vs : List Value} {j n c : Nat} {a : Option Addr} (h : vs[j * 2 + 1]? = some (.slice a n c)) : adA vs j = a := by unfold adA; rw [h]
theorem adC_of {vs : List Value} {j n c : Nat} {a : Option Addr} (h : vs[j * 2 + 1]? = some (.slice a n c)) : adC vs j = c := by unfold adC; rw [h]
theorem blkAt_of {vs : List Value} {j b o : Nat} {s : Option Nat} (h : adA vs j = some ⟨b, o, s⟩) : blkAt vs j = some b := by
  unfold adA at h
  unfold blkAt
  split at h
  · rename_i a x y hq
    rw [hq]; subst h; rfl
  · cases h
/-- What marks need of them. -/
theorem OwD.pi {w : World} {B top n c : Nat} {A : Option Addr} {fs : List Pl} (h : OwD w B top A n c fs) : OwPI w B w.heap.size A n := by
  obtain ⟨⟨hn, hl⟩, vs, ho, hf, hd⟩ := h
  refine ⟨hn, ?_⟩
  have hvl : vs.length = n * 2 := ho.1
  rcases ho.2 with ⟨e, e2⟩ | ⟨g, cap, cur, e, hg, hh, hnc, _, hcs, ht⟩
  · cases e; exact .inl ⟨rfl, e2⟩
  · cases e
    have hgl : g < w.heap.size := (Array.getElem?_eq_some_iff.1 hh).1
    have hcur : ∀ i, i < n * 2 → cur[i]? = vs[i]? := fun i hi => by
      rw [← ht, List.getElem?_take, if_pos hi]; simp
    refine .inr ⟨g, cur, adA vs, fun j => (fs.getD j ⟨0, []⟩).cf.length, adC vs, rfl, hg, hgl, hh, by omega, fun j hj => ?_⟩
    have hp : fs[j]? = some (fs.getD j ⟨0, []⟩) := by rw [List.getD_eq_getElem?_getD, List.getElem?_eq_getElem (by omega)]; rfl
    obtain ⟨h1, A', c', h2, h3, h4⟩ := hf j _ hp
    refine ⟨⟨_, by rw [hcur _ (by omega)]; exact h1⟩, ?_, ⟨(fs.getD j ⟨0, []⟩).cf, ?_⟩, fun b o s e => ?_⟩
    · rw [hcur _ (by omega), h2, adA_of h2, adC_of h2]
    · rw [adA_of h2, adC_of h2]; exact h3
    have hbj := blkAt_of e
    rw [adA_of h2] at e
    have hbd := h3.bd b o s e
    refine ⟨hbd.2, fun eg => h4 b o s e (by rw [eg]; rfl), fun i hi hij b' o' s' e' eb => ?_⟩
    exact (hd j b hj hbj).2 i hi hij (by rw [blkAt_of e', eb])

/-! SizePolys of both. -/
def sizeP (ar : List Int) : List Pl := ar.map fun n => ⟨1, List.replicate n.toNat 1⟩
def sizeO (ar : List Int) : List Pl := if sigOk ar = true then sizeP ar else []
theorem sizeP_succ {ar : List Int} {k : Nat} {n : Int} (h : ar[k]? = some n) : (sizeP ar).take (k + 1) = (sizeP ar).take k ++ [⟨1, List.replicate n.toNat 1⟩] := by
  have hk : (sizeP ar)[k]? = some ⟨1, List.replicate n.toNat 1⟩ := by unfold sizeP; rw [List.getElem?_map, h]; rfl
  rw [List.take_add_one, hk]; rfl
theorem sizeP_len (ar : List Int) : (sizeP ar).length = ar.length := by simp [sizeP]
theorem ownsRow_uniq {w : World} {B n size : Nat} {e : TypeId} {v : Value} {vs us : List Value} (h : w.ownsRow B e size v n vs) (k : w.ownsRow B e size v n us) : vs = us := by
  rcases h.2 with ⟨h1, h2⟩ | ⟨g, cap, cur, h1, _, hh, _, _, _, ht⟩
  · have a := h.1; have b := k.1
    subst h2
    rw [Nat.zero_mul] at a b
    rw [List.length_eq_zero_iff.1 a, List.length_eq_zero_iff.1 b]
  · rcases k.2 with ⟨k1, k2⟩ | ⟨g', cap', cur', k1, _, hh', _, _, _, ht'⟩
    · rw [h1] at k1; cases k1
    · rw [h1] at k1; cases k1
      rw [hh] at hh'; cases hh'
      rw [← ht, ← ht']
theorem OwD.ob {w : World} {B top n c : Nat} {A : Option Addr} {fs : List Pl} (h : OwD w B top A n c fs) : ∀ k, (Value.slice A n c).ownBlock = some k → B ≤ k ∧ k < w.heap.size := h.q.ob
theorem OwD.none0 {w : World} {B top : Nat} (hB : B ≤ w.heap.size) : OwD (w.alloc (.cells #[] 90)) B top (some ⟨w.heap.size, 0, none⟩) 0 0 [] :=
  ⟨⟨by omega, rfl⟩, [], World.ownsRow_made w #[] 0 hB (by decide) rfl, fun j f h => by simp at h, fun j b h => by omega⟩
theorem polys_info' : (Try.prog.info? 90).map (fun i => (i.zero, i.size, i.bytes)) = some (some (.agg #[.int .i64 0, .slice none 0 0]), 2, 32) := by kernel_rfl
def NewSz (w : World) (ps : List Pl) (e : Ending) (w' : World) : Prop := ∃ A n c, e = .returned (.slice A n c) ∧ OwD w' w.heap.size w'.heap.size A n c ps ∧ Ext w w'
theorem OwD.lower {w : World} {B B' top n c : Nat} {A : Option Addr} {fs : List Pl} (h : OwD w B top A n c fs) (hB : B' ≤ B) : OwD w B' top A n c fs := by
  obtain ⟨h1, vs, ho, hf, hd⟩ := h
  refine ⟨h1, vs, ⟨ho.1, ?_⟩, fun j f hj => ?_, hd⟩
  · rcases ho.2 with h2 | ⟨g, cap, cur, hv, hg, r⟩
    · exact .inl h2
    · exact .inr ⟨g, cap, cur, hv, Nat.le_trans hB hg, r⟩
  · obtain ⟨e1, A', c', e2, e3, e4⟩ := hf j f hj
    exact ⟨e1, A', c', e2, e3.lower hB, e4⟩
theorem OwD.cast {w : World} {B top n c : Nat} {A A' : Option Addr} {fs : List Pl} (h : OwD w B top A n c fs) (e : A = A') : OwD w B top A' n c fs := e ▸ h
theorem ext_top {w w' : World} {b : Nat} (h : b < w.heap.size) (k : Ext w w') : b < w'.heap.size := by have := k.size; omega

/-! Marks of polynomials, and that they hold. -/
/-- The first mark of each. -/
def kAt (k0 : Int) (L : Nat → Nat) : Nat → Int
  | 0 => k0
  | j + 1 => kAt k0 L j + 1 + L j
theorem kAt_bd {k0 : Int} {L : Nat → Nat} (h0 : 0 ≤ k0) {n : Nat} (hL : ∀ j, j < n → L j ≤ 4194304) : ∀ j, j ≤ n → k0 ≤ kAt k0 L j ∧ kAt k0 L j ≤ k0 + j * 4194305
  | 0, _ => by show k0 ≤ k0 ∧ k0 ≤ _; omega
  | j + 1, h => by
    have h1 := kAt_bd h0 hL j (by omega)
    have h2 := hL j (by omega)
    show k0 ≤ kAt k0 L j + 1 + L j ∧ kAt k0 L j + 1 + L j ≤ _
    omega
/-- Marked polynomials, as they are read. -/
def Marked (w : World) (A : Option Addr) (n : Nat) (k0 k1 : Int) : Prop := n ≤ 4194304 ∧ ((A = none ∧ n = 0 ∧ k1 = k0) ∨ ∃ (g : Nat) (G : Nat → Option Addr) (L C : Nat → Nat), A = some ⟨g, 0, none⟩ ∧ k1 = kAt k0 L n ∧
  ∀ j, j < n → w.cell? ⟨g, j * 2, none⟩ = some (.int .i64 (kAt k0 L j)) ∧ w.cell? ⟨g, j * 2 + 1, none⟩ = some (.slice (G j) (L j) (C j)) ∧ RI w (G j) (L j) (marks (kAt k0 L j + 1) (L j)))
theorem Marked.ext {w w' : World} {A : Option Addr} {n : Nat} {k0 k1 : Int} (h : Marked w A n k0 k1) (k : Ext w w') : Marked w' A n k0 k1 := by
  obtain ⟨hn, h1⟩ := h
  refine ⟨hn, h1.imp id ?_⟩
  rintro ⟨g, G, L, C, hA, hk, h2⟩
  exact ⟨g, G, L, C, hA, hk, fun j hj => by obtain ⟨a, b, c⟩ := h2 j hj; exact ⟨Ext.keep k a, Ext.keep k b, c.ext k⟩⟩
theorem Marked.bd {w : World} {A : Option Addr} {n : Nat} {k0 k1 : Int} (h : Marked w A n k0 k1) (h0 : 0 ≤ k0) : k0 ≤ k1 ∧ k1 ≤ k0 + n * 4194305 := by
  obtain ⟨hn, ⟨_, _, rfl⟩ | ⟨g, G, L, C, hA, rfl, h2⟩⟩ := h
  · omega
  · exact kAt_bd h0 (fun j hj => (h2 j hj).2.2.le) n (Nat.le_refl _)
/-- The marks under way: what is done reads so. -/
def MarkSt2 (wr : World) (g : Nat) (G : Nat → Option Addr) (L C : Nat → Nat) (k0 : Int) (q : Nat) : Prop :=
  ∀ j, j < q → wr.cell? ⟨g, j * 2, none⟩ = some (.int .i64 (kAt k0 L j)) ∧ RI wr (G j) (L j) (marks (kAt k0 L j + 1) (L j))
set_option maxRecDepth 100000 in
set_option maxHeartbeats 2000000 in
theorem c_markPolyS2 {A : Option Addr} {n c lo hi : Nat} {k0 : Int} {w : World} (h0 : OwPI w lo hi A n) (hk : 0 ≤ k0) (hk2 : k0 ≤ 1000000000000) :
    Calls Try.prog 22 #[.slice A n c, .int .i64 k0] w fun e w' => ∃ k1 : Int, e = .returned (.int .i64 k1) ∧ Marked w' A n k0 k1 ∧ Turn lo hi w w' := by
  obtain ⟨hn, h1⟩ := h0
  rcases h1 with ⟨rfl, rfl⟩ | ⟨g, cs, G, L, C, rfl, hg, hg2, hh, hc, hG⟩
  · go_enter Try.func22, Try.ntmps22
    go_wp2
    go_loopw [1, 5] (fun x i wr => i = .int .i64 0 ∧ x = .int .i64 k0 ∧ wr = w) (fun _ i _ => 0)
    case atStart => exact ⟨rfl, rfl, rfl⟩
    case round =>
      obtain ⟨rfl, rfl, rfl⟩ := hrel
      go_wp2
      go_ret
      exact ⟨k0, rfl, ⟨by omega, .inl ⟨rfl, rfl, rfl⟩⟩, Turn.refl _ _ _⟩
  · have HAP := Lib.hid (show Apart hi g G n from fun j hj => (hG j hj).2.2.2)
    have HM := Lib.hid (show MarkSt w w lo hi g G L C n 0 from ⟨Turn.refl _ _ _, ⟨cs, hh, hc, fun j hj => ⟨(hG j hj).1, (hG j hj).2.1⟩⟩, fun j hj _ => (hG j hj).2.2.1⟩)
    have HLB := Lib.hid (show ∀ j, j < n → L j ≤ 4194304 from fun j hj => by obtain ⟨xs, h⟩ := (hG j hj).2.2.1; exact h.le)
    clear hG hh hc
    go_enter Try.func22, Try.ntmps22
    go_wp2
    go_loopw [1, 5] (fun x i wr => ∃ q : Nat, i = .int .i64 q ∧ q ≤ n ∧ (∃ y : Int, x = .int .i64 y ∧ Hid (y = kAt k0 L q)) ∧ Hid (MarkSt w wr lo hi g G L C n q ∧ MarkSt2 wr g G L C k0 q)) (fun _ i _ => n - (intOf i).toNat)
    case atStart => exact ⟨0, rfl, Nat.zero_le _, ⟨k0, rfl, Lib.hid rfl⟩, Lib.hid ⟨HM.out, fun j hj => by omega⟩⟩
    case round =>
      obtain ⟨q, rfl, hq, ⟨y, rfl, hy⟩, hM⟩ := hrel
      have hybd := kAt_bd hk HLB.out q hq
      rw [← hy.out] at hybd
      by_cases hlt : q < n
      · obtain ⟨⟨hT, ⟨cs, hh, hc, hcs⟩, hrest⟩, hdone⟩ := hM.out
        obtain ⟨⟨y0, e0⟩, e1⟩ := hcs q hlt
        obtain ⟨xs, hO⟩ := hrest q hlt (Nat.le_refl _)
        have hc0 : wr.cell? ⟨g, q * 2, none⟩ = some (.int .i64 y0) := by rw [cell_of_row wr g _ cs _ (0, 0) hh]; exact e0
        have hc1 : wr.cell? ⟨g, q * 2 + 1, none⟩ = some (.slice (G q) (L q) (C q)) := by rw [cell_of_row wr g _ cs _ (0, 0) hh]; exact e1
        have hLq := hO.le
        have hlt' : (q : Int) < (n : Int) := by omega
        have hq0 : (0 : Int) ≤ (q : Int) := by omega
        have hc1f : ∀ i, wr.frozen? ⟨g, i, none⟩ = false := fun i => frozen_of_row wr _ _ cs _ hh
        have hgl : g < wr.heap.size := (Array.getElem?_eq_some_iff.1 hh).1
        have hy3 : IntKind.i64.wrap (y + 1) = y + 1 := IntWalk.i64_in _ (by omega)
        have HOQ := Lib.hid (hO.setFar (.int .i64 y) (p := ⟨g, q * 2, none⟩) fun b o s e => (HAP.out q hlt b o s e).2.1)
        have HY := Lib.hid (show y + 1 + L q = kAt k0 L (q + 1) by show _ = kAt k0 L q + 1 + L q; rw [hy.out])
        clear hT hh hc hcs hrest hO e0 e1 hdone
        go_wp2_with fail
        (with_reducible refine (c_markInts (B := lo) (xs := xs) HOQ.out (by omega) (by omega)).mono ?_)
        rintro e5 w5 ⟨rfl, hR5, hO5⟩
        have HN := Lib.hid (hM.out.1.step hlt HAP.out ⟨hg, hg2⟩ hO5)
        have HN2 := Lib.hid (show MarkSt2 w5 g G L C k0 (q + 1) from fun j hj => by
          have hgG : ∀ b o s, G q = some ⟨b, o, s⟩ → g ≠ b := fun b o s e e2 => (HAP.out q hlt b o s e).2.1 e2.symm
          rcases Nat.lt_or_ge j q with h | h
          · obtain ⟨a1, a2⟩ := hM.out.2 j h
            refine ⟨?_, ?_⟩
            · refine (OnlyA.cells hO5 (by simpa [World.setCell] using hgl) hgG).trans ?_
              rw [World.cell?_setCell_other _ _ _ _ (by first | (simp; done) | (simp; omega))]; exact a1
            · refine RI.onlyA ?_ hO5 (fun b o s b' o' s' e e' => (HAP.out j (by omega) b' o' s' e').2.2 q hlt (by omega) b o s e)
              refine ⟨a2.1, fun h0 => ?_⟩
              obtain ⟨b, o, hB, hcc⟩ := a2.2 h0
              exact ⟨b, o, hB, fun i x hx => by rw [World.cell?_setCell_other _ _ _ _ (by have := (HAP.out j (by omega) b o none hB).2.1; first | (simp; done) | (simp; omega))]; exact hcc i x hx⟩
          · obtain rfl : j = q := by omega
            refine ⟨?_, ?_⟩
            · refine (OnlyA.cells hO5 (by simpa [World.setCell] using hgl) hgG).trans ?_
              rw [← hy.out]; exact World.cell?_setCell_same _ _ _ hc0
            · rw [← hy.out]; exact hR5.ri)
        clear hO5 hR5
        go_wp2
        go_roundw
        case rel => exact ⟨q + 1, by go_num, by omega, ⟨_, rfl, HY⟩, Lib.hid ⟨HN.out, HN2.out⟩⟩
        case measure => simp only [intOf]; omega
      · go_wp2
        go_ret
        have hqn : q = n := by omega
        subst hqn
        obtain ⟨⟨hT, ⟨cs, hh, hc, hcs⟩, _⟩, hdone⟩ := hM.out
        refine ⟨y, rfl, ⟨hn, .inr ⟨g, G, L, C, rfl, hy.out, fun j hj => ⟨(hdone j hj).1, ?_, (hdone j hj).2⟩⟩⟩, hT⟩
        rw [cell_of_row wr g _ cs _ (0, 0) hh]; exact (hcs j hj).2
set_option maxRecDepth 100000 in
set_option maxHeartbeats 2000000 in
theorem c_heldPolyS {A : Option Addr} {n c : Nat} {k0 k1 : Int} {w : World} (h0 : Marked w A n k0 k1) (hk : 0 ≤ k0) (hk2 : k0 ≤ 1000000000) :
    Calls Try.prog 23 #[.slice A n c, .int .i64 k0] w fun e w' => e = .returned (.int .i64 k1) ∧ Ext w w' := by
  obtain ⟨hn, h1⟩ := h0
  rcases h1 with ⟨rfl, rfl, rfl⟩ | ⟨g, G, L, C, rfl, rfl, hG⟩
  · go_enter Try.func23, Try.ntmps23
    go_wp2
    go_loopw [1, 5] (fun x i wr => i = .int .i64 0 ∧ x = .int .i64 k1 ∧ wr = w) (fun _ i _ => 0)
    case atStart => exact ⟨rfl, rfl, rfl⟩
    case round =>
      obtain ⟨rfl, rfl, rfl⟩ := hrel
      go_wp2
      go_ret
      exact ⟨rfl, Ext.refl _⟩
  · have HG := Lib.hid hG
    clear hG
    go_enter Try.func23, Try.ntmps23
    go_wp2
    go_loopw [1, 5] (fun x i wr => ∃ q : Nat, i = .int .i64 q ∧ q ≤ n ∧ (∃ y : Int, x = .int .i64 y ∧ Hid (y = kAt k0 L q)) ∧ Ext w wr) (fun _ i _ => n - (intOf i).toNat)
    case atStart => exact ⟨0, rfl, Nat.zero_le _, ⟨k0, rfl, Lib.hid rfl⟩, Ext.refl _⟩
    case round =>
      obtain ⟨q, rfl, hq, ⟨y, rfl, hy⟩, hE⟩ := hrel
      have hybd := kAt_bd hk (fun j hj => (HG.out j hj).2.2.le) q hq
      rw [← hy.out] at hybd
      by_cases hlt : q < n
      · obtain ⟨hc0, hc1, hri⟩ := HG.out q hlt
        rw [← hy.out] at hc0 hri
        have hd0 := Ext.keep hE hc0
        have hd1 := Ext.keep hE hc1
        have hLq := hri.le
        have HR := Lib.hid hri
        have hlt' : (q : Int) < (n : Int) := by omega
        have hq0 : (0 : Int) ≤ (q : Int) := by omega
        have hne : (y != y) = false := by simp
        have hy3 : IntKind.i64.wrap (y + 1) = y + 1 := IntWalk.i64_in _ (by omega)
        have HY := Lib.hid (show y + 1 + L q = kAt k0 L (q + 1) by show _ = kAt k0 L q + 1 + L q; rw [hy.out])
        have hneg : ¬ (y + 1 + (L q : Int) < 0) := by omega
        clear hc0 hc1 hri
        go_wp2_with fail
        (with_reducible refine (c_heldInts (k := y + 1) (RI.ext HR.out hE) (by omega) (by omega)).mono ?_)
        rintro e5 w5 ⟨rfl, rfl⟩
        go_wp2
        go_roundw
        case rel => exact ⟨q + 1, by go_num, by omega, ⟨_, rfl, HY⟩, hE⟩
        case measure => simp only [intOf]; omega
      · go_wp2
        go_ret
        have hqn : q = n := by omega
        subst hqn
        exact ⟨ret_int hy.out, hE⟩

/-! Marks of a system. -/
/-- Cells that are there stay there, and are as free as they were. -/
def Same (w w' : World) : Prop := ∀ b o v, w.cell? ⟨b, o, none⟩ = some v → (∃ v', w'.cell? ⟨b, o, none⟩ = some v') ∧ w'.frozen? ⟨b, o, none⟩ = w.frozen? ⟨b, o, none⟩
theorem Same.refl (w : World) : Same w w := fun b o v h => ⟨⟨v, h⟩, rfl⟩
theorem Same.trans {a b c : World} (h : Same a b) (k : Same b c) : Same a c := fun g o v hv => by
  obtain ⟨⟨v', h1⟩, h2⟩ := h g o v hv
  obtain ⟨h3, h4⟩ := k g o v' h1
  exact ⟨h3, h4.trans h2⟩
theorem Same.set (w : World) (g i : Nat) (u : Value) : Same w (w.setCell ⟨g, i, none⟩ u) := fun b o v h => by
  refine ⟨?_, World.frozen?_setCell _ _ _ _⟩
  by_cases e : (⟨b, o, none⟩ : Addr) = ⟨g, i, none⟩
  · rw [e] at h ⊢; exact ⟨u, World.cell?_setCell_same _ _ _ h⟩
  · exact ⟨v, by rw [World.cell?_setCell_other _ _ _ _ (by first | exact e | exact Ne.symm e)]; exact h⟩
theorem Same.ext {w w' : World} (h : Ext w w') : Same w w' := fun b o v hv => ⟨⟨v, Ext.keep h hv⟩, Below.frozen (p := ⟨b, o, none⟩) h (World.block_lt_of_cell? w _ hv)⟩
/-- Cells of a slice that may be written, in blocks of a range. -/
def FreeI (w : World) (lo hi : Nat) (A : Option Addr) (n : Nat) : Prop := n ≤ 4194304 ∧ (0 < n → ∃ g o, A = some ⟨g, o, none⟩ ∧ lo ≤ g ∧ g < hi ∧ ∀ j, j < n → (∃ v, w.cell? ⟨g, o + j, none⟩ = some v) ∧ w.frozen? ⟨g, o + j, none⟩ = false)
theorem FreeI.same {w w' : World} {lo hi n : Nat} {A : Option Addr} (h : FreeI w lo hi A n) (k : Same w w') : FreeI w' lo hi A n :=
  ⟨h.1, fun h0 => by
    obtain ⟨g, o, hA, h1, h2, h3⟩ := h.2 h0
    refine ⟨g, o, hA, h1, h2, fun j hj => ?_⟩
    obtain ⟨⟨v, hv⟩, hf⟩ := h3 j hj
    obtain ⟨h4, h5⟩ := k _ _ v hv
    exact ⟨h4, h5.trans hf⟩⟩
theorem OwI.free {w : World} {D n c : Nat} {A : Option Addr} {xs : List Int} (h : OwI w D A n c xs) : FreeI w D w.heap.size A n := by
  refine ⟨h.le, fun h0 => ?_⟩
  rcases h.form with ⟨_, h1, _⟩ | ⟨g, hA, h1, h2⟩
  · omega
  · subst hA
    refine ⟨g, 0, rfl, h1, h2, fun j hj => ?_⟩
    obtain ⟨x, _, hc, hf⟩ := h.at_ hj
    rw [Nat.zero_add]; exact ⟨⟨_, hc⟩, hf⟩
theorem FreeI.mono {w : World} {lo hi lo' hi' n : Nat} {A : Option Addr} (h : FreeI w lo hi A n) (h1 : lo' ≤ lo) (h2 : hi ≤ hi') : FreeI w lo' hi' A n :=
  ⟨h.1, fun h0 => by obtain ⟨g, o, hA, a, b, c⟩ := h.2 h0; exact ⟨g, o, hA, by omega, by omega, c⟩⟩
set_option maxHeartbeats 1000000 in
theorem c_markFree {A : Option Addr} {n c lo hi : Nat} {k : Int} {w : World} (h0 : FreeI w lo hi A n) (hk : 0 ≤ k) (hk2 : k ≤ 1000000000000000) :
    Calls Try.prog 15 #[.slice A n c, .int .i64 k] w fun e w' => e = .returned (.int .i64 (k + n)) ∧ Turn lo hi w w' ∧ Same w w' ∧ ∀ b o, (∀ g o' s, A = some ⟨g, o', s⟩ → b ≠ g) → w'.cell? ⟨b, o, none⟩ = w.cell? ⟨b, o, none⟩ := by
  have hn := h0.1
  have H0 := Lib.hid h0
  clear h0
  go_enter Try.func15, Try.ntmps15
  go_wp2
  go_loopw [1, 5] (fun x i wr => ∃ q : Nat, i = .int .i64 q ∧ q ≤ n ∧ x = .int .i64 (k + q) ∧ Hid (Turn lo hi w wr ∧ Same w wr ∧ ∀ b o, (∀ g o' s, A = some ⟨g, o', s⟩ → b ≠ g) → wr.cell? ⟨b, o, none⟩ = w.cell? ⟨b, o, none⟩)) (fun _ i _ => n - (intOf i).toNat)
  case atStart => exact ⟨0, rfl, Nat.zero_le _, by simp, Lib.hid ⟨Turn.refl _ _ _, Same.refl _, fun _ _ _ => rfl⟩⟩
  case round =>
    obtain ⟨q, rfl, hq, rfl, hT⟩ := hrel
    by_cases hlt : q < n
    · obtain ⟨g, o, hA, hg1, hg2, hc⟩ := (H0.out.same hT.out.2.1).2 (by omega)
      subst hA
      obtain ⟨⟨v, hv⟩, hf⟩ := hc q hlt
      have hqi : (q : Int) < (n : Int) := by omega
      have hq0 : (0 : Int) ≤ (q : Int) := by omega
      have hw : IntKind.i64.wrap (k + (q : Int) + 1) = k + (q : Int) + 1 := IntWalk.i64_in _ (by omega)
      have HN := Lib.hid (show Turn lo hi w (wr.setCell ⟨g, o + q, none⟩ (.int .i64 (k + (q : Int)))) ∧ Same w (wr.setCell ⟨g, o + q, none⟩ (.int .i64 (k + (q : Int)))) ∧ ∀ b o', (∀ g' o'' s, (some ⟨g, o, none⟩ : Option Addr) = some ⟨g', o'', s⟩ → b ≠ g') → (wr.setCell ⟨g, o + q, none⟩ (.int .i64 (k + (q : Int)))).cell? ⟨b, o', none⟩ = w.cell? ⟨b, o', none⟩ from
        ⟨hT.out.1.trans (Turn.set ⟨hg1, hg2⟩), hT.out.2.1.trans (Same.set _ _ _ _), fun b o' hb => by
          rw [World.cell?_setCell_other _ _ _ _ (by have := hb g o none rfl; first | (simp; done) | (simp; omega))]; exact hT.out.2.2 b o' hb⟩)
      clear hc
      go_wp2
      go_roundw
      case rel => exact ⟨q + 1, by go_num, by omega, by go_num, HN⟩
      case measure => simp only [intOf]; omega
    · go_wp2
      go_ret
      have hqn : q = n := by omega
      subst hqn
      exact ⟨rfl, hT.out⟩
/-- Rules of the call's own that may be marked. -/
def FreeR (w : World) (lo hi : Nat) (B : Option Addr) (m : Nat) : Prop := m ≤ 4194304 ∧ ∃ g, B = some ⟨g, 0, none⟩ ∧ ∀ j, j < m → ∃ (A1 : Option Addr) (n1 c1 : Nat) (A2 : Option Addr) (n2 c2 : Nat),
  w.cell? ⟨g, j * 2, none⟩ = some (.slice A1 n1 c1) ∧ w.cell? ⟨g, j * 2 + 1, none⟩ = some (.slice A2 n2 c2) ∧ FreeI w lo hi A1 n1 ∧ FreeI w lo hi A2 n2 ∧ (∀ b o s, A1 = some ⟨b, o, s⟩ → g ≠ b) ∧ ∀ b o s, A2 = some ⟨b, o, s⟩ → g ≠ b
theorem FreeR.ext {w w' : World} {lo hi m : Nat} {B : Option Addr} (h : FreeR w lo hi B m) (k : Ext w w') : FreeR w' lo hi B m := by
  obtain ⟨h1, g, hB, h2⟩ := h
  refine ⟨h1, g, hB, fun j hj => ?_⟩
  obtain ⟨A1, n1, c1, A2, n2, c2, a, b, c, d, e, f⟩ := h2 j hj
  exact ⟨A1, n1, c1, A2, n2, c2, Ext.keep k a, Ext.keep k b, c.same (Same.ext k), d.same (Same.ext k), e, f⟩
theorem OwR.free {w : World} {lo m : Nat} {B : Option Addr} {rs : List Ru} (h : OwR w lo B m rs) : FreeR w lo w.heap.size B m := by
  obtain ⟨⟨h1, h1'⟩, g, cs, rfl, _, hh, hG⟩ := h
  refine ⟨h1', g, rfl, fun j hj => ?_⟩
  have hr : rs[j]? = some (rs[j]'(by omega)) := List.getElem?_eq_getElem (by omega)
  obtain ⟨⟨A, n, c, e1, e2, e3⟩, ⟨A', n', c', f1, f2, f3⟩⟩ := hG j _ hj hr
  exact ⟨A, n, c, A', n', c', by rw [cell_of_row w g _ cs _ (0, 0) hh]; exact e1, by rw [cell_of_row w g _ cs _ (0, 0) hh]; exact f1, e2.free, f2.free, fun b o s e => (e3 b o s e).symm, fun b o s e => (f3 b o s e).symm⟩
theorem FreeR.step {w w' : World} {lo hi m g : Nat} (h : FreeR w lo hi (some ⟨g, 0, none⟩) m) (hs : Same w w') (hc : 0 < m → ∀ o, w'.cell? ⟨g, o, none⟩ = w.cell? ⟨g, o, none⟩) : FreeR w' lo hi (some ⟨g, 0, none⟩) m := by
  obtain ⟨h1, g', hB, h2⟩ := h
  cases hB
  refine ⟨h1, g, rfl, fun j hj => ?_⟩
  obtain ⟨A1, n1, c1, A2, n2, c2, a, b, c, d, e, f⟩ := h2 j hj
  exact ⟨A1, n1, c1, A2, n2, c2, (hc (by omega) _).trans a, (hc (by omega) _).trans b, c.same hs, d.same hs, e, f⟩
set_option maxRecDepth 100000 in
set_option maxHeartbeats 2000000 in
theorem c_markRuleS {B : Option Addr} {m c lo hi : Nat} {k0 : Int} {w : World} (h0 : FreeR w lo hi B m) (hk : 0 ≤ k0) (hk2 : k0 ≤ 1000000000000) :
    Calls Try.prog 48 #[.slice B m c, .int .i64 k0] w fun e w' => ∃ k1 : Int, e = .returned (.int .i64 k1) ∧ (k0 ≤ k1 ∧ k1 ≤ k0 + m * 8388608) ∧ Turn lo hi w w' := by
  have hm := h0.1
  obtain ⟨g, rfl⟩ : ∃ g, B = some ⟨g, 0, none⟩ := by obtain ⟨_, g, h, _⟩ := h0; exact ⟨g, h⟩
  have H0 := Lib.hid h0
  clear h0
  go_enter Try.func48, Try.ntmps48
  go_wp2
  go_loopw [1, 5] (fun x i wr => ∃ q : Nat, i = .int .i64 q ∧ q ≤ m ∧ (∃ y : Int, x = .int .i64 y ∧ k0 ≤ y ∧ y ≤ k0 + q * 8388608) ∧ Hid (Turn lo hi w wr ∧ FreeR wr lo hi (some ⟨g, 0, none⟩) m)) (fun _ i _ => m - (intOf i).toNat)
  case atStart => exact ⟨0, rfl, Nat.zero_le _, ⟨k0, rfl, by omega, by omega⟩, Lib.hid ⟨Turn.refl _ _ _, H0.out⟩⟩
  case round =>
    obtain ⟨q, rfl, hq, ⟨y, rfl, hy1, hy2⟩, hM⟩ := hrel
    by_cases hlt : q < m
    · obtain ⟨_, g', hB, hG⟩ := hM.out.2
      cases hB
      obtain ⟨A1, n1, c1, A2, n2, c2, hc1, hc2, hf1, hf2, hne1, hne2⟩ := hG q hlt
      have HF1 := Lib.hid hf1
      have HF2 := Lib.hid hf2
      have hn1 := hf1.1
      have hn2 := hf2.1
      have hqi : (q : Int) < (m : Int) := by omega
      have hq0 : (0 : Int) ≤ (q : Int) := by omega
      clear hG hf1 hf2
      go_wp2_with fail
      (with_reducible refine (c_markFree HF1.out (by omega) (by omega)).mono ?_)
      rintro e5 w5 ⟨rfl, hT5, hS5, hC5⟩
      have hd2 : w5.cell? ⟨g, q * 2 + 1, none⟩ = some (.slice A2 n2 c2) := (hC5 g _ hne1).trans hc2
      have HT5 := Lib.hid hT5
      have HS5 := Lib.hid hS5
      have HC5 := Lib.hid hC5
      clear hT5 hS5 hC5
      go_wp2_with fail
      (with_reducible refine (c_markFree (HF2.out.same HS5.out) (by omega) (by omega)).mono ?_)
      rintro e6 w6 ⟨rfl, hT6, hS6, hC6⟩
      have HN := Lib.hid (show Turn lo hi w w6 ∧ FreeR w6 lo hi (some ⟨g, 0, none⟩) m from ⟨(hM.out.1.trans HT5.out).trans hT6, (hM.out.2.step HS5.out (fun _ o => HC5.out g o hne1)).step hS6 (fun _ o => hC6 g o hne2)⟩)
      clear hT6 hS6 hC6
      go_wp2
      go_roundw
      case rel => exact ⟨q + 1, by go_num, by omega, ⟨_, rfl, by omega, by omega⟩, HN⟩
      case measure => simp only [intOf]; omega
    · go_wp2
      go_ret
      have hqm : q = m := by omega
      subst hqm
      exact ⟨y, rfl, ⟨hy1, hy2⟩, hM.out.1⟩
set_option maxHeartbeats 1000000 in
theorem c_markSigF {A : Option Addr} {n c lo hi : Nat} {k : Int} {w : World} (h0 : FreeI w lo hi A n) (hk : 0 ≤ k) (hk2 : k ≤ 1000000000000) :
    Calls Try.prog 47 #[.agg #[.slice A n c], .int .i64 k] w fun e w' => e = .returned (.int .i64 (k + n)) ∧ Turn lo hi w w' ∧ Same w w' ∧ ∀ b o, b < w.heap.size → (∀ g o' s, A = some ⟨g, o', s⟩ → b ≠ g) → w'.cell? ⟨b, o, none⟩ = w.cell? ⟨b, o, none⟩ := by
  have H0 := Lib.hid h0
  clear h0
  go_enter Try.func47, Try.ntmps47
  go_wp2_with (go_at_call 15; (with_reducible refine (c_markFree (lo := lo) (hi := hi) (H0.out.same (Same.ext (by exact extX))) hk (by omega)).mono ?_); rintro e w2 ⟨rfl, hT, hS, hC⟩; have HT := Lib.hid hT; have HS := Lib.hid hS; have HC := Lib.hid hC; clear hT hS hC)
  go_ret
  refine ⟨rfl, (Turn.of_ext (by exact extX)).trans HT.out, (Same.ext (by exact extX)).trans HS.out, fun b o hb h => (HC.out b o h).trans ?_⟩
  exact World.cell?_alloc_lt _ _ _ hb
set_option maxHeartbeats 2000000 in
theorem c_markSystem {A B : Option Addr} {n c m d lo hi : Nat} {k : Int} {w : World} (h0 : FreeI w lo hi A n) (h1 : FreeR w lo hi B m) (hne : ∀ b o s g o' s', A = some ⟨b, o, s⟩ → B = some ⟨g, o', s'⟩ → g ≠ b) (hA : ∀ b o s, A = some ⟨b, o, s⟩ → b < w.heap.size) (hk : 0 ≤ k) (hk2 : k ≤ 1000000000) :
    Calls Try.prog 14 #[.agg #[.slice A n c, .slice B m d], .int .i64 k] w fun e w' => ∃ k1 : Int, e = .returned (.int .i64 k1) ∧ (k ≤ k1 ∧ k1 ≤ k + 4194304 + m * 8388608) ∧ Turn lo hi w w' := by
  have hn := h0.1
  obtain ⟨g, rfl⟩ : ∃ g, B = some ⟨g, 0, none⟩ := by obtain ⟨_, g, h, _⟩ := h1; exact ⟨g, h⟩
  have H0 := Lib.hid h0
  have H1 := Lib.hid h1
  have HN := Lib.hid hne
  clear h0 h1 hne
  go_enter Try.func14, Try.ntmps14
  go_wp2_with fail
  obtain ⟨wo, hwo⟩ : ∃ wo, wo = w.alloc (.cells #[.slice A n c, .slice (some ⟨g, 0, none⟩) m d] 34) := ⟨_, rfl⟩
  have hw1 : wo.cell? ⟨w.heap.size, 1, none⟩ = some (.slice (some ⟨g, 0, none⟩) m d) := by rw [hwo]; simp [go_sem]
  have hEo : Ext w wo := by rw [hwo]; exact extX
  have hsz : w.heap.size < wo.heap.size := World.block_lt_of_cell? wo _ hw1
  have H0o := Lib.hid (H0.out.same (Same.ext hEo))
  have H1o := Lib.hid (H1.out.ext hEo)
  have hEo' := hEo
  rw [← hwo]
  clear hwo
  (with_reducible refine (c_markSigF (lo := lo) (hi := hi) H0o.out hk (by omega)).mono ?_)
  rintro e5 w5 ⟨rfl, hT5, hS5, hC5⟩
  have hd1 : w5.cell? ⟨w.heap.size, 1, none⟩ = some (.slice (some ⟨g, 0, none⟩) m d) := (hC5 _ _ hsz (fun g' o s e => by have := hA g' o s e; omega)).trans hw1
  have HT5 := Lib.hid hT5
  have HF5 := Lib.hid (H1o.out.step hS5 (fun hm o => hC5 g o (by
    obtain ⟨_, g', hB, h2⟩ := H1o.out
    cases hB
    obtain ⟨A1, n1, c1, A2, n2, c2, a, _⟩ := h2 0 hm
    exact World.block_lt_of_cell? wo _ a) (fun b o' s e => HN.out b o' s g 0 none e rfl)))
  clear hT5 hS5 hC5
  go_wp2_with fail
  (with_reducible refine (c_markRuleS HF5.out (by omega) (by omega)).mono ?_)
  rintro e6 w6 ⟨k1, rfl, ⟨hk1, hk1'⟩, hT6⟩
  have HT6 := Lib.hid (((Turn.of_ext hEo').trans HT5.out).trans hT6)
  clear hT6
  go_wp2
  go_ret
  exact ⟨k1, rfl, ⟨by omega, by omega⟩, HT6.out⟩
/-- A system of the call's own. -/
def NewSyO (w : World) (s : Sy) (e : Ending) (w' : World) : Prop := ∃ A n c B m, e = .returned (.agg #[.slice A n c, .slice B m m]) ∧ RI w' A n s.ar ∧ RR true w' B m s.rs ∧ FreeI w' w.heap.size w'.heap.size A n ∧ FreeR w' w.heap.size w'.heap.size B m ∧ (∀ b o s g o' s', A = some ⟨b, o, s⟩ → B = some ⟨g, o', s'⟩ → g ≠ b) ∧ (∀ b o s, A = some ⟨b, o, s⟩ → b < w'.heap.size) ∧ Ext w w'
theorem FreeR.lower {w : World} {lo lo' hi m : Nat} {B : Option Addr} (h : FreeR w lo hi B m) (hl : lo' ≤ lo) : FreeR w lo' hi B m := by
  obtain ⟨h1, g, hB, h2⟩ := h
  refine ⟨h1, g, hB, fun j hj => ?_⟩
  obtain ⟨A1, n1, c1, A2, n2, c2, a, b, c, d, e, f⟩ := h2 j hj
  exact ⟨A1, n1, c1, A2, n2, c2, a, b, c.mono hl (Nat.le_refl _), d.mono hl (Nat.le_refl _), e, f⟩
set_option maxHeartbeats 2000000 in
theorem c_toSystemO {v : Value} {s : Sy} {w : World} (h0 : RdSy w v s) : Calls Try.prog 10 #[v] w (NewSyO w s) := by
  obtain ⟨A, n, c, B, m, d, rfl, ha, hb⟩ := h0
  have HA := Lib.hid ha
  have HB := Lib.hid hb
  clear ha hb
  go_enter Try.func10, Try.ntmps10
  go_wp2_with (first
    | (go_at_call 42; (with_reducible refine (c_toSig (ar := s.ar) (RdSig.mk (RI.ext HA.out (by exact extX)))).mono ?_); rintro e w1 ⟨A1, n1, c1, rfl, hO1, hE1⟩; have HA1 := Lib.hid (OwI.bd hO1); have HR1 := Lib.hid (OwI.ri hO1); have HO1 := Lib.hid (OwI.lower (B' := w.heap.size) hO1 (by go_size)); clear hO1; have hz1 := sz_of hE1; (try simp only [World.size_alloc, World.size_setCell, World.size_drew] at hz1); obtain ⟨hc1, hf1⟩ := bcell hE1; (try have hq1_0 : w.heap.size < w1.heap.size := by omega); (try have hq1_1 : w.heap.size + 1 < w1.heap.size := by omega); (try have hq1_2 : w.heap.size + 1 + 1 < w1.heap.size := by omega); (try have hq1_3 : w.heap.size + 1 + 1 + 1 < w1.heap.size := by omega); (try have hq1_4 : w.heap.size + 1 + 1 + 1 + 1 < w1.heap.size := by omega); (try have hq1_5 : w.heap.size + 1 + 1 + 1 + 1 + 1 < w1.heap.size := by omega))
    | (go_at_call 43; (with_reducible refine (c_toRuleS (rs := s.rs) (RR.ext HB.out (by exact extX))).mono ?_); rintro e w2 ⟨B2, rfl, hR2, hE2⟩; have HR2 := Lib.hid hR2; clear hR2; have hz2 := sz_of hE2; (try simp only [World.size_alloc, World.size_setCell, World.size_drew] at hz2); obtain ⟨hc2, hf2⟩ := bcell hE2; (try have hq2_0 : w.heap.size < w2.heap.size := by omega); (try have hq2_1 : w.heap.size + 1 < w2.heap.size := by omega); (try have hq2_2 : w.heap.size + 1 + 1 < w2.heap.size := by omega); (try have hq2_3 : w.heap.size + 1 + 1 + 1 < w2.heap.size := by omega); (try have hq2_4 : w.heap.size + 1 + 1 + 1 + 1 < w2.heap.size := by omega); (try have hq2_5 : w.heap.size + 1 + 1 + 1 + 1 + 1 < w2.heap.size := by omega); (try have hx2_1 : w1.heap.size < w2.heap.size := by omega)))
  refine bodyPost_ret (v := .agg #[.slice A1 n1 c1, .slice B2 m m]) (by simp [results, Try.results10, go_sem, hc1, hc2, hq1_0, hq1_1, hq1_2, hq2_0, hq2_1, hq2_2]) rfl ?_
  obtain ⟨lo, h5, h6, h7⟩ : ∃ lo, OwR w2 lo B2 m s.rs ∧ w.heap.size + 3 ≤ lo ∧ w1.heap.size ≤ lo := ⟨_, HR2.out, by simp [go_sem]; omega, by simp [go_sem]⟩
  refine ⟨A1, n1, c1, B2, m, rfl, ?_, ?_, ?_, ?_, ?_, ?_, ?_⟩
  · exact OwI.ri (B := w.heap.size) (c := c1) (by (repeat' (first | (with_reducible refine OwI.setFar ?_ _ (far_lt HA1.out ?_)) | (with_reducible refine OwI.alloc ?_ _) | (with_reducible refine OwI.drewN ?_ _) | (with_reducible exact HO1.out) | (with_reducible refine OwI.ext ?_ (by with_reducible assumption)) | (left; go_size) | (right; go_size))))
  · refine OwR.rr (lo := lo) ?_
    (repeat' (first | (with_reducible exact h5) | (with_reducible refine OwR.setFar ?_ _ ?_) | (simp; omega)))
  · exact OwI.free (D := w.heap.size) (c := c1) (xs := s.ar) (by (repeat' (first | (with_reducible refine OwI.setFar ?_ _ (far_lt HA1.out ?_)) | (with_reducible refine OwI.alloc ?_ _) | (with_reducible refine OwI.drewN ?_ _) | (with_reducible exact HO1.out) | (with_reducible refine OwI.ext ?_ (by with_reducible assumption)) | (left; go_size) | (right; go_size))))
  · refine FreeR.lower (OwR.free (lo := lo) (rs := s.rs) ?_) (by omega)
    (repeat' (first | (with_reducible exact h5) | (with_reducible refine OwR.setFar ?_ _ ?_) | (simp; omega)))
  · intro b o s' g o' s'' e1 e2
    have h8 := (HA1.out b o s' e1).2
    obtain ⟨_, g', cs, hB, hg, _⟩ := h5
    rw [e2] at hB; cases hB
    omega
  · intro b o s' e1; have h8 := (HA1.out b o s' e1).2; have h9 := hE2.size; simp [go_sem] at h9 ⊢; omega
  · exact extX

end Go.Proofs.Ytjmdfjinicbkeaa
