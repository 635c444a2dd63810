/- Several texts in one: MarkT, SizeP, SizeQ. -/
import Derived.Test.YtljbjabgdalabaaTurn
import Derived.Test.YtljbjabgdalabaaPoly
import Derived.Test.YtljbjabgdalabaaFormD
import Derived.Test.YtljbjabgdalabaaSig
import Derived.Test.YtljbjabgdalabaaPG
-- rd: RdPl RdPs
namespace Go.Proofs.Ytljbjabgdalabaa
open Go.RowKit
set_option linter.unusedSimpArgs false
set_option linter.unusedVariables false

/-! What marks turn, by a range of blocks. -/
/-- Polynomials of the call's own, in blocks of a range: what marks need of them. -/
def OwPI (w : World) (lo hi : Nat) (A : Option Addr) (n : Nat) : Prop := n ≤ 4194304 ∧ ((A = none ∧ n = 0) ∨ ∃ (g : Nat) (cs : Array Value) (G : Nat → Option Addr) (L C : Nat → Nat), A = some ⟨g, 0, none⟩ ∧ lo ≤ g ∧ g < hi ∧ w.heap[g]? = some (.cells cs 38 (0, 0)) ∧ n * 2 ≤ cs.size ∧
  ∀ j, j < n → (∃ y : Int, cs[j * 2]? = some (.int .i64 y)) ∧ cs[j * 2 + 1]? = some (.slice (G j) (L j) (C j)) ∧ (∃ xs, OwI w lo (G j) (L j) (C j) xs) ∧ ∀ b o s, G j = some ⟨b, o, s⟩ → b < hi ∧ b ≠ g ∧ ∀ i, i < n → i ≠ j → ∀ b' o' s', G i = some ⟨b', o', s'⟩ → b ≠ b')
theorem OwPI.of {w : World} {B : Nat} {A : Option Addr} {n c : Nat} {ps : List Pl} (h : OwP w B A n c ps) : OwPI w B w.heap.size A n := by
  obtain ⟨⟨hl, hn⟩, h1⟩ := h
  refine ⟨hn, ?_⟩
  rcases h1 with ⟨h1, h2, _⟩ | ⟨g, cs, G, C, hA, hg, hh, hc, hG⟩
  · exact .inl ⟨h1, h2⟩
  · have hgl : g < w.heap.size := by
      rcases Nat.lt_or_ge g w.heap.size with h | h
      · exact h
      · rw [Array.getElem?_eq_none h] at hh; cases hh
    refine .inr ⟨g, cs, G, fun j => (ps.getD j ⟨0, []⟩).cf.length, C, hA, hg, hgl, hh, hc, fun j hj => ?_⟩
    have hp : ps[j]? = some (ps.getD j ⟨0, []⟩) := by rw [List.getD_eq_getElem?_getD, List.getElem?_eq_getElem (by omega)]; rfl
    obtain ⟨h1, h2, h3, h4⟩ := hG j _ hj hp
    exact ⟨⟨_, h1⟩, h2, ⟨_, h3⟩, fun b o s e => ⟨(h3.bd b o s e).2, h4 b o s e⟩⟩
theorem OwPI.ext {w w' : World} {lo hi : Nat} {A : Option Addr} {n : Nat} (h : OwPI w lo hi A n) (k : Ext w w') : OwPI w' lo hi A n := by
  obtain ⟨hn, h1⟩ := h
  refine ⟨hn, ?_⟩
  rcases h1 with h1 | ⟨g, cs, G, L, C, hA, hg, hg2, hh, hc, hG⟩
  · exact .inl h1
  · have hgl : g < w.heap.size := by
      rcases Nat.lt_or_ge g w.heap.size with h | h
      · exact h
      · rw [Array.getElem?_eq_none h] at hh; cases hh
    refine .inr ⟨g, cs, G, L, C, hA, hg, hg2, (k.block g hgl).trans hh, hc, fun j hj => ?_⟩
    obtain ⟨h1, h2, ⟨xs, h3⟩, h4⟩ := hG j hj
    exact ⟨h1, h2, ⟨xs, h3.ext k⟩, h4⟩
theorem OwPI.turn {w w' : World} {lo hi lo' hi' : Nat} {A : Option Addr} {n : Nat} (h : OwPI w lo hi A n) (k : Turn lo' hi' w w') (hd : hi ≤ lo' ∨ hi' ≤ lo) : OwPI w' lo hi A n := by
  obtain ⟨hn, h1⟩ := h
  refine ⟨hn, ?_⟩
  rcases h1 with h1 | ⟨g, cs, G, L, C, hA, hg, hg2, hh, hc, hG⟩
  · exact .inl h1
  · have hgl : g < w.heap.size := by
      rcases Nat.lt_or_ge g w.heap.size with h | h
      · exact h
      · rw [Array.getElem?_eq_none h] at hh; cases hh
    refine .inr ⟨g, cs, G, L, C, hA, hg, hg2, (k.block g hgl (by omega)).trans hh, hc, fun j hj => ?_⟩
    obtain ⟨h1, h2, ⟨xs, h3⟩, h4⟩ := hG j hj
    exact ⟨h1, h2, ⟨xs, h3.turn k fun b o s e => by have := (h3.bd b o s e).1; have := (h4 b o s e).1; omega⟩, h4⟩
/-- The state of the marks: the first ones are done. -/
def MarkSt (w1 wr : World) (lo hi g : Nat) (G : Nat → Option Addr) (L C : Nat → Nat) (n k : Nat) : Prop :=
  Turn lo hi w1 wr ∧ (∃ cs : Array Value, wr.heap[g]? = some (.cells cs 38 (0, 0)) ∧ n * 2 ≤ cs.size ∧ ∀ j, j < n → (∃ y : Int, cs[j * 2]? = some (.int .i64 y)) ∧ cs[j * 2 + 1]? = some (.slice (G j) (L j) (C j))) ∧ ∀ j, j < n → k ≤ j → ∃ xs, OwI wr lo (G j) (L j) (C j) xs
/-- The inner slices lie apart. -/
def Apart (hi g : Nat) (G : Nat → Option Addr) (n : Nat) : Prop := ∀ j, j < n → ∀ b o s, G j = some ⟨b, o, s⟩ → b < hi ∧ b ≠ g ∧ ∀ i, i < n → i ≠ j → ∀ b' o' s', G i = some ⟨b', o', s'⟩ → b ≠ b'
theorem MarkSt.step {w1 wr w5 : World} {lo hi g n q : Nat} {G : Nat → Option Addr} {L C : Nat → Nat} {y : Int} (hM : MarkSt w1 wr lo hi g G L C n q) (hlt : q < n) (hA : Apart hi g G n) (hg : lo ≤ g ∧ g < hi)
    (hO : OnlyA (wr.setCell ⟨g, q * 2, none⟩ (.int .i64 y)) w5 (G q)) : MarkSt w1 w5 lo hi g G L C n (q + 1) := by
  obtain ⟨hT, ⟨cs, hh, hc, hcs⟩, hrest⟩ := hM
  have hgl : g < wr.heap.size := (Array.getElem?_eq_some_iff.1 hh).1
  obtain ⟨xs, hOq⟩ := hrest q hlt (Nat.le_refl _)
  have hh1 : (wr.setCell ⟨g, q * 2, none⟩ (.int .i64 y)).heap[g]? = some (.cells (cs.setIfInBounds (q * 2) (.int .i64 y)) 38 (0, 0)) := by simp [World.setCell, Array.getElem?_modify, hh]
  refine ⟨(hT.trans (Turn.set hg)).trans (Turn.of_only hO fun b o s e => ⟨(hOq.bd b o s e).1, (hA q hlt b o s e).1⟩), ⟨cs.setIfInBounds (q * 2) (.int .i64 y), ?_, by simpa using hc, fun j hj => ?_⟩, fun j hj hjq => ?_⟩
  · refine (hO.block g (by simpa [World.setCell] using hgl) fun e => ?_).trans hh1
    cases hGq : G q with
    | none => rw [hGq] at e; cases e
    | some p =>
      obtain ⟨b, o, s⟩ := p
      rw [hGq] at e
      have e' : g = b := by simpa using e
      exact (hA q hlt b o s hGq).2.1 e'.symm
  · obtain ⟨⟨y0, e0⟩, e1⟩ := hcs j hj
    refine ⟨?_, by rw [Array.getElem?_setIfInBounds_ne (by omega)]; exact e1⟩
    by_cases hjq : q = j
    · subst hjq
      exact ⟨y, Array.getElem?_setIfInBounds_self_of_lt (by omega)⟩
    · exact ⟨y0, by rw [Array.getElem?_setIfInBounds_ne (by omega)]; exact e0⟩
  · obtain ⟨xj, hj1⟩ := hrest j hj (by omega)
    refine ⟨xj, (hj1.setFar _ fun b o s e => (hA j hj b o s e).2.1).onlyA hO fun b o s b' o' s' e e' => ?_⟩
    exact (hA j hj b' o' s' e').2.2 q hlt (by omega) b o s e

/-! SizePolys of both. -/
/-- The blocks of the factors of some polynomials. -/
def blkAt (vs : List Value) (j : Nat) : Option Nat := match vs[j * 2 + 1]? with | some (.slice (some a) _ _) => some a.block | _ => none
/-- A growing slice of polynomials of the call's own, their factors in blocks apart, all but the row's own below a bound. -/
def OwD (w : World) (B top : Nat) (A : Option Addr) (n c : Nat) (fs : List Pl) : Prop :=
  (n ≤ 4194304 ∧ fs.length = n) ∧ ∃ vs, w.ownsRow B 38 2 (.slice A n c) n vs ∧ (∀ (j : Nat) (f : Pl), fs[j]? = some f →
    vs[j * 2]? = some (.int .i64 f.c) ∧ ∃ A' c', vs[j * 2 + 1]? = some (.slice A' f.cf.length c') ∧ OwI w B A' f.cf.length c' f.cf ∧ ∀ b o s, A' = some ⟨b, o, s⟩ → (Value.slice A n c).ownBlock ≠ some b) ∧
    ∀ j b, j < n → blkAt vs j = some b → b < top ∧ ∀ i, i < n → i ≠ j → blkAt vs i ≠ some b
theorem OwD.q {w : World} {B top n c : Nat} {A : Option Addr} {fs : List Pl} (h : OwD w B top A n c fs) : OwQ w B A n c fs := by
  obtain ⟨h1, vs, h2, h3, _⟩ := h; exact ⟨h1, vs, h2, h3⟩
theorem OwD.nil (w : World) (B top : Nat) : OwD w B top none 0 0 [] := ⟨⟨by omega, rfl⟩, [], World.ownsRow_nil _ _ _ _, fun j f h => by simp at h, fun j b h => by omega⟩
theorem OwD.mono {w : World} {B top top' n c : Nat} {A : Option Addr} {fs : List Pl} (h : OwD w B top A n c fs) (ht : top ≤ top') : OwD w B top' A n c fs := by
  obtain ⟨h1, vs, h2, h3, h4⟩ := h
  exact ⟨h1, vs, h2, h3, fun j b hj hb => by have := h4 j b hj hb; exact ⟨by omega, this.2⟩⟩
theorem OwD.ext {w w' : World} {B top n c : Nat} {A : Option Addr} {fs : List Pl} (h : OwD w B top A n c fs) (k : Ext w w') : OwD w' B top A n c fs := by
  obtain ⟨h1, vs, ho, hf, hd⟩ := h
  refine ⟨h1, vs, ⟨ho.1, ?_⟩, fun j f hj => ?_, hd⟩
  · rcases ho.2 with h2 | ⟨g, cap, cur, hv, hg, hh, r⟩
    · exact .inl h2
    · exact .inr ⟨g, cap, cur, hv, hg, (k.block g (Array.getElem?_eq_some_iff.1 hh).1).trans hh, r⟩
  · obtain ⟨e1, A', c', e2, e3, e4⟩ := hf j f hj
    exact ⟨e1, A', c', e2, e3.ext k, e4⟩
theorem blkAt_left {vs ws : List Value} {j : Nat} (h : j * 2 + 1 < vs.length) : blkAt (vs ++ ws) j = blkAt vs j := by
  unfold blkAt; rw [List.getElem?_append_left h]
/-- One more, its factors in a block behind the bound. -/
theorem OwD.push {w wx : World} {B top top' n c g cap : Nat} {A A' : Option Addr} {c' : Nat} {fs : List Pl} {f : Pl} {o : Obj} (h : OwD w B top A n c fs) (h1 : n + 1 ≤ 4194304) (hO : OwI w B A' f.cf.length c' f.cf) (hnew : ∀ b o s, A' = some ⟨b, o, s⟩ → top ≤ b ∧ b < top') (htop : top ≤ top')
    (hfar : ∀ b o s, A' = some ⟨b, o, s⟩ → (Value.slice A n c).ownBlock ≠ some b)
    (hown : ∀ vs, w.ownsRow B 38 2 (.slice A n c) n vs → wx.ownsRow B 38 2 (.slice (some ⟨g, 0, none⟩) (n + 1) cap) (n + 1) (vs ++ [.int .i64 f.c, .slice A' f.cf.length c']))
    (hg : (w.alloc o).grownBy wx (Value.slice A n c).ownBlock) (hat : (Value.slice A n c).ownBlock = some g ∨ g = (w.alloc o).heap.size) :
    OwD wx B top' (some ⟨g, 0, none⟩) (n + 1) cap (fs ++ [f]) := by
  obtain ⟨⟨hn, hl⟩, vs, ho, hf, hd⟩ := h
  have hvl : vs.length = n * 2 := ho.1
  have hq := OwQ.push (w := w) h1 hl hvl hf hO hfar (hown vs ho) hg hat
  obtain ⟨k1, us, k2, k3⟩ := hq
  have hus : us = vs ++ [.int .i64 f.c, .slice A' f.cf.length c'] := by
    rcases k2.2 with ⟨e, _⟩ | ⟨g1, cap1, cur1, e1, _, hh1, _, _, _, ht1⟩
    · cases e
    · rcases (hown vs ho).2 with ⟨e, _⟩ | ⟨g2, cap2, cur2, e2, _, hh2, _, _, _, ht2⟩
      · cases e
      · cases e1; cases e2
        rw [hh1] at hh2; cases hh2
        rw [← ht1, ht2]
  subst hus
  have hlast : blkAt (vs ++ [.int .i64 f.c, .slice A' f.cf.length c']) n = A'.map (·.block) := by
    unfold blkAt
    rw [List.getElem?_append_right (by omega), hvl, show n * 2 + 1 - n * 2 = 1 by omega]
    cases A' <;> rfl
  refine ⟨k1, _, k2, k3, fun j b hj hb => ?_⟩
  rcases Nat.lt_or_ge j n with hjn | hjn
  · rw [blkAt_left (by omega)] at hb
    have h5 := hd j b hjn hb
    refine ⟨by omega, fun i hi hij => ?_⟩
    rcases Nat.lt_or_ge i n with hin | hin
    · rw [blkAt_left (by omega)]; exact h5.2 i hin hij
    · obtain rfl : i = n := by omega
      rw [hlast]
      cases A' with
      | none => simp
      | some p => obtain ⟨b2, o2, s2⟩ := p; have := (hnew b2 o2 s2 rfl).1; simp; omega
  · obtain rfl : j = n := by omega
    rw [hlast] at hb
    cases A' with
    | none => cases hb
    | some p =>
      obtain ⟨b2, o2, s2⟩ := p
      have h6 := hnew b2 o2 s2 rfl
      have hbb : b2 = b := by simpa using hb
      subst hbb
      refine ⟨h6.2, fun i hi hij => ?_⟩
      rw [blkAt_left (by omega)]
      intro e
      have := (hd i b2 (by omega) e).1
      omega
def adA (vs : List Value) (j : Nat) : Option Addr := match vs[j * 2 + 1]? with | some (.slice a _ _) => a | _ => none
def adC (vs : List Value) (j : Nat) : Nat := match vs[j * 2 + 1]? with | some (.slice _ _ c) => c | _ => 0
theorem adA_of {vs : List Value} {j n c : Nat} {a : Option Addr} (h : vs[j * 2 + 1]? = some (.slice a n c)) : adA vs j = a := by unfold adA; rw [h]
theorem adC_of {vs : List Value} {j n c : Nat} {a : Option Addr} (h : vs[j * 2 + 1]? = some (.slice a n c)) : adC vs j = c := by unfold adC; rw [h]
theorem blkAt_of {vs : List Value} {j b o : Nat} {s : Option Nat} (h : adA vs j = some ⟨b, o, s⟩) : blkAt vs j = some b := by
  unfold adA at h
  unfold blkAt
  split at h
  · rename_i a x y hq
    rw [hq]; subst h; rfl
  · cases h
/-- What marks need of them. -/
theorem OwD.pi {w : World} {B top n c : Nat} {A : Option Addr} {fs : List Pl} (h : OwD w B top A n c fs) : OwPI w B w.heap.size A n := by
  obtain ⟨⟨hn, hl⟩, vs, ho, hf, hd⟩ := h
  refine ⟨hn, ?_⟩
  have hvl : vs.length = n * 2 := ho.1
  rcases ho.2 with ⟨e, e2⟩ | ⟨g, cap, cur, e, hg, hh, hnc, _, hcs, ht⟩
  · cases e; exact .inl ⟨rfl, e2⟩
  · cases e
    have hgl : g < w.heap.size := (Array.getElem?_eq_some_iff.1 hh).1
    have hcur : ∀ i, i < n * 2 → cur[i]? = vs[i]? := fun i hi => by
      rw [← ht, List.getElem?_take, if_pos hi]; simp
    refine .inr ⟨g, cur, adA vs, fun j => (fs.getD j ⟨0, []⟩).cf.length, adC vs, rfl, hg, hgl, hh, by omega, fun j hj => ?_⟩
    have hp : fs[j]? = some (fs.getD j ⟨0, []⟩) := by rw [List.getD_eq_getElem?_getD, List.getElem?_eq_getElem (by omega)]; rfl
    obtain ⟨h1, A', c', h2, h3, h4⟩ := hf j _ hp
    refine ⟨⟨_, by rw [hcur _ (by omega)]; exact h1⟩, ?_, ⟨(fs.getD j ⟨0, []⟩).cf, ?_⟩, fun b o s e => ?_⟩
    · rw [hcur _ (by omega), h2, adA_of h2, adC_of h2]
    · rw [adA_of h2, adC_of h2]; exact h3
    have hbj := blkAt_of e
    rw [adA_of h2] at e
    have hbd := h3.bd b o s e
    refine ⟨hbd.2, fun eg => h4 b o s e (by rw [eg]; rfl), fun i hi hij b' o' s' e' eb => ?_⟩
    exact (hd j b hj hbj).2 i hi hij (by rw [blkAt_of e', eb])

/-! SizePolys of both. -/
def sizeP (ar : List Int) : List Pl := ar.map fun n => ⟨1, List.replicate n.toNat 1⟩
def sizeO (ar : List Int) : List Pl := if sigOk ar = true then sizeP ar else []
theorem sizeP_succ {ar : List Int} {k : Nat} {n : Int} (h : ar[k]? = some n) : (sizeP ar).take (k + 1) = (sizeP ar).take k ++ [⟨1, List.replicate n.toNat 1⟩] := by
  have hk : (sizeP ar)[k]? = some ⟨1, List.replicate n.toNat 1⟩ := by unfold sizeP; rw [List.getElem?_map, h]; rfl
  rw [List.take_add_one, hk]; rfl
theorem sizeP_len (ar : List Int) : (sizeP ar).length = ar.length := by simp [sizeP]
theorem ownsRow_uniq {w : World} {B n size : Nat} {e : TypeId} {v : Value} {vs us : List Value} (h : w.ownsRow B e size v n vs) (k : w.ownsRow B e size v n us) : vs = us := by
  rcases h.2 with ⟨h1, h2⟩ | ⟨g, cap, cur, h1, _, hh, _, _, _, ht⟩
  · have a := h.1; have b := k.1
    subst h2
    rw [Nat.zero_mul] at a b
    rw [List.length_eq_zero_iff.1 a, List.length_eq_zero_iff.1 b]
  · rcases k.2 with ⟨k1, k2⟩ | ⟨g', cap', cur', k1, _, hh', _, _, _, ht'⟩
    · rw [h1] at k1; cases k1
    · rw [h1] at k1; cases k1
      rw [hh] at hh'; cases hh'
      rw [← ht, ← ht']
theorem OwD.ob {w : World} {B top n c : Nat} {A : Option Addr} {fs : List Pl} (h : OwD w B top A n c fs) : ∀ k, (Value.slice A n c).ownBlock = some k → B ≤ k ∧ k < w.heap.size := h.q.ob
theorem OwD.none0 {w : World} {B top : Nat} (hB : B ≤ w.heap.size) : OwD (w.alloc (.cells #[] 38)) B top (some ⟨w.heap.size, 0, none⟩) 0 0 [] :=
  ⟨⟨by omega, rfl⟩, [], World.ownsRow_made w #[] 0 hB (by decide) rfl, fun j f h => by simp at h, fun j b h => by omega⟩
theorem polys_info' : (Try.prog.info? 38).map (fun i => (i.zero, i.size, i.bytes)) = some (some (.agg #[.int .i64 0, .slice none 0 0]), 2, 32) := by kernel_rfl
def NewSz (w : World) (ps : List Pl) (e : Ending) (w' : World) : Prop := ∃ A n c, e = .returned (.slice A n c) ∧ OwD w' w.heap.size w'.heap.size A n c ps ∧ Ext w w'
theorem OwD.lower {w : World} {B B' top n c : Nat} {A : Option Addr} {fs : List Pl} (h : OwD w B top A n c fs) (hB : B' ≤ B) : OwD w B' top A n c fs := by
  obtain ⟨h1, vs, ho, hf, hd⟩ := h
  refine ⟨h1, vs, ⟨ho.1, ?_⟩, fun j f hj => ?_, hd⟩
  · rcases ho.2 with h2 | ⟨g, cap, cur, hv, hg, r⟩
    · exact .inl h2
    · exact .inr ⟨g, cap, cur, hv, Nat.le_trans hB hg, r⟩
  · obtain ⟨e1, A', c', e2, e3, e4⟩ := hf j f hj
    exact ⟨e1, A', c', e2, e3.lower hB, e4⟩
theorem OwD.cast {w : World} {B top n c : Nat} {A A' : Option Addr} {fs : List Pl} (h : OwD w B top A n c fs) (e : A = A') : OwD w B top A' n c fs := e ▸ h
theorem ext_top {w w' : World} {b : Nat} (h : b < w.heap.size) (k : Ext w w') : b < w'.heap.size := by have := k.size; omega
set_option maxRecDepth 100000 in
set_option maxHeartbeats 4000000 in
theorem c_iSizePolys {v0 : Value} {ar : List Int} {w : World} (h0 : RdSig w v0 ar) :
    Calls Try.prog 31 #[v0] w (NewSz w (sizeO ar)) := by
  obtain ⟨A0, n0, c0, rfl, ha⟩ := h0
  have hn0 := ha.le
  have HA := Lib.hid ha
  have HL := Lib.hid ha.len
  obtain ⟨i0, hii, hiz, his, hib⟩ := info_parts int64_info
  obtain ⟨i1, hji, hjz, hjs, hjb⟩ := info_parts polys_info'
  clear ha
  cases hs : sigOk ar with
  | false =>
    have HR := Lib.hid (show sizeO ar = [] by unfold sizeO; rw [hs]; rfl)
    go_enter Try.func31, Try.ntmps31
    go_wp2_with (go_at_call 63; (with_reducible refine (c_iSigOk (ar := ar) (by (first | (first | (with_reducible exact RdI.mk (RI.ext (Hid.out (by with_reducible assumption)) (by exact extX))) | (with_reducible exact RdI.ext (by with_reducible assumption) (by exact extX))) | (with_reducible exact RdPs.mk (RP.ext (Hid.out (by with_reducible assumption)) (by exact extX))) | (with_reducible exact RdPs.ext (by with_reducible assumption) (by exact extX)) | (with_reducible exact RdPl.mk (by (first | (with_reducible exact RI.ext (Hid.out (by with_reducible assumption)) (by exact extX))))) | (with_reducible exact RdPl.ext (by with_reducible assumption) (by exact extX)) | (with_reducible exact RdSig.mk (by (first | (with_reducible exact RI.ext (Hid.out (by with_reducible assumption)) (by exact extX))))) | (with_reducible exact RdSig.ext (by with_reducible assumption) (by exact extX))))).mono ?_); rintro e w1 ⟨rfl, hE1⟩; have hz1 := sz_of hE1; (try simp only [World.size_alloc, World.size_setCell, World.size_drew] at hz1); obtain ⟨hc1, hf1⟩ := bcell hE1; (try have hq1_0 : w.heap.size < w1.heap.size := by omega); (try have hq1_1 : w.heap.size + 1 < w1.heap.size := by omega); (try have hq1_2 : w.heap.size + 1 + 1 < w1.heap.size := by omega); (try have hq1_3 : w.heap.size + 1 + 1 + 1 < w1.heap.size := by omega); (try have hq1_4 : w.heap.size + 1 + 1 + 1 + 1 < w1.heap.size := by omega); (try have hq1_5 : w.heap.size + 1 + 1 + 1 + 1 + 1 < w1.heap.size := by omega))
    go_ret
    rw [HR.out]
    exact ⟨none, 0, 0, rfl, OwD.nil _ _ _, by exact extX⟩
  | true =>
    have HR := Lib.hid (show sizeO ar = sizeP ar by unfold sizeO; rw [if_pos hs])
    have hsp := sigOk_iff.1 hs
    have hn8 : n0 ≤ 8 := by rw [← HL.out]; exact hsp.2.1
    have HS := Lib.hid hsp.2.2
    clear hsp
    go_enter Try.func31, Try.ntmps31
    go_wp2_with (go_at_call 63; (with_reducible refine (c_iSigOk (ar := ar) (by (first | (first | (with_reducible exact RdI.mk (RI.ext (Hid.out (by with_reducible assumption)) (by exact extX))) | (with_reducible exact RdI.ext (by with_reducible assumption) (by exact extX))) | (with_reducible exact RdPs.mk (RP.ext (Hid.out (by with_reducible assumption)) (by exact extX))) | (with_reducible exact RdPs.ext (by with_reducible assumption) (by exact extX)) | (with_reducible exact RdPl.mk (by (first | (with_reducible exact RI.ext (Hid.out (by with_reducible assumption)) (by exact extX))))) | (with_reducible exact RdPl.ext (by with_reducible assumption) (by exact extX)) | (with_reducible exact RdSig.mk (by (first | (with_reducible exact RI.ext (Hid.out (by with_reducible assumption)) (by exact extX))))) | (with_reducible exact RdSig.ext (by with_reducible assumption) (by exact extX))))).mono ?_); rintro e w1 ⟨rfl, hE1⟩; have hz1 := sz_of hE1; (try simp only [World.size_alloc, World.size_setCell, World.size_drew] at hz1); obtain ⟨hc1, hf1⟩ := bcell hE1; (try have hq1_0 : w.heap.size < w1.heap.size := by omega); (try have hq1_1 : w.heap.size + 1 < w1.heap.size := by omega); (try have hq1_2 : w.heap.size + 1 + 1 < w1.heap.size := by omega); (try have hq1_3 : w.heap.size + 1 + 1 + 1 < w1.heap.size := by omega); (try have hq1_4 : w.heap.size + 1 + 1 + 1 + 1 < w1.heap.size := by omega); (try have hq1_5 : w.heap.size + 1 + 1 + 1 + 1 + 1 < w1.heap.size := by omega))
    obtain ⟨wb, hwb⟩ : ∃ wb, wb = w.alloc (.cells #[.slice A0 n0 c0] 29) := ⟨_, rfl⟩
    have hs0 : wb.cell? ⟨w.heap.size, 0, none⟩ = some (.slice A0 n0 c0) := by rw [hwb]; simp [go_sem]
    have hbs : w.heap.size + 1 = wb.heap.size := by rw [hwb]; simp [go_sem]
    have hEwb : Ext w wb := by rw [hwb]; exact extX
    have hEb1 : Ext wb w1 := by rw [hwb]; exact hE1
    have hs1 := Ext.keep hEb1 hs0
    have HBS := Lib.hid hbs
    clear hwb hbs
    go_wp2_with fail
    go_loopw [3, 13] (fun o i wr => ∃ k : Nat, i = .int .i64 k ∧ k ≤ n0 ∧ (∃ A c, o = .slice A k c ∧ Hid (OwD wr (w.heap.size + 1) wr.heap.size A k c ((sizeP ar).take k))) ∧ Ext wb wr) (fun _ i _ => n0 - (intOf i).toNat)
    case atStart => exact ⟨0, rfl, Nat.zero_le _, ⟨_, _, rfl, Lib.hid (by rw [List.take_zero]; exact OwD.nil _ _ _)⟩, hEb1⟩
    case round =>
      obtain ⟨k, rfl, hk, ⟨A, c, rfl, hO⟩, hE⟩ := hrel
      have hEw : Ext w wr := Ext.trans hEwb hE
      have hr0 := Ext.keep hE hs0
      by_cases hlt : k < n0
      · obtain ⟨b, o, z, rfl, hz, hcz⟩ := RI.at_ (RI.ext HA.out hEw) hlt
        have hzb := HS.out z (List.mem_of_getElem? hz)
        obtain ⟨m, rfl⟩ := Int.eq_ofNat_of_zero_le hzb.1
        have hm3 : m ≤ 3 := by omega
        have HZ := Lib.hid (sizeP_succ hz)
        have hki : (k : Int) < (n0 : Int) := by omega
        have hk0 : (0 : Int) ≤ (k : Int) := by omega
        have hbl : b < wr.heap.size := World.block_lt_of_cell? wr _ hcz
        have hwl : w.heap.size < wr.heap.size := World.block_lt_of_cell? wr _ hr0
        clear hz
        go_wp2_with fail
        obtain ⟨wo, rfl⟩ : ∃ wo : World, wo = wr := ⟨_, rfl⟩
        have P00 := PB.new wo 1 38
        go_loopw [19] (fun i wi => ∃ j : Nat, i = .int .i64 j ∧ j ≤ m ∧ Hid (∃ A cA, PB wo wi 1 A cA (List.replicate j 1))) (fun i _ => m - (intOf i).toNat)
        case atStart => exact ⟨0, rfl, Nat.zero_le _, Lib.hid ⟨none, 0, P00⟩⟩
        case round =>
          obtain ⟨j, rfl, hj, hP⟩ := hrel
          obtain ⟨A1, cA, P1⟩ := hP.out
          clear hP
          have hEi : Ext wo wr := P1.ex
          have hEwi : Ext w wr := Ext.trans hEw hEi
          have hi0 := Ext.keep hEi hr0
          have hiz' := Ext.keep hEi hcz
          have h11 := P1.c1
          have h10 := P1.c0
          have h1f := P1.fr
          have h1l := P1.lt
          have hsz := hEi.size
          rw [List.length_replicate] at h11
          by_cases hjm : j < m
          · have HP1 := Lib.hid P1
            have HO1 := Lib.hid (show OwI wr (wo.heap.size + 1) A1 j cA (List.replicate j 1) by have := P1.oA; rwa [List.length_replicate] at this)
            clear P1
            have hjmi : (j : Int) < (m : Int) := by omega
            have hj0 : (0 : Int) ≤ (j : Int) := by omega
            go_wp2_with (at_builtin; go_loud (refine wpList_append_lies _ rfl (.tmp 22) (.tmp 23) 27 rfl (wo.heap.size + 1) 2 i0 (.int .i64 0) 1 8 Try.underlying27 hii hiz his hib rfl (by decide) _ _ _ rfl (OwI.alloc HO1.out _).2 ⟨wr.heap.size, 0, none⟩ 1 1 [.int .i64 1] rfl rfl (one_cells _ _ _) (one_one _) (by decide) (by unfold maxLen; omega) (by omega) (by go_size) _ rfl ?_))
            intro g cap wx hown hg hat hltg
            have HFar := Lib.hid (PB.far HP1.out (by rw [List.length_replicate]; exact hg))
            have hx0 : wx.cell? ⟨wo.heap.size, 1, none⟩ = some (.slice A1 j cA) := (HFar.out.1 1).trans h11
            have hxf : ∀ i, wx.frozen? ⟨wo.heap.size, i, none⟩ = false := HFar.out.2
            have hP4 := PB.push HP1.out (y := 1) (by rw [List.length_replicate]; omega) (by rw [List.length_replicate, List.map_replicate]; exact hown) (by rw [List.length_replicate]; exact hg) (by rw [List.length_replicate]; exact hat.imp id (fun e => e.trans (by simp [go_sem]))) hltg
            rw [List.length_replicate, ← List.replicate_succ'] at hP4
            have HP4 := Lib.hid hP4
            clear hown hg hat hP4
            go_wp2
            go_roundw
            case rel => exact ⟨j + 1, by go_num, by omega, Lib.hid ⟨_, _, HP4.out⟩⟩
            case measure => simp only [intOf]; omega
          · have hjm' : j = m := by omega
            subst hjm'
            have hO2 := hO.out.ext hEi
            have hob := hO2.ob
            have HO2 := Lib.hid hO2
            have HV := Lib.hid (show OwI wr (wo.heap.size + 1) A1 j cA (List.replicate j 1) by have := P1.oA; rwa [List.length_replicate] at this)
            have hbd := HV.out.bd
            have hob0 := hO.out.ob
            have hfar : ∀ b o s, A1 = some ⟨b, o, s⟩ → (Value.slice A k c).ownBlock ≠ some b := fun b o s e e2 => by have := (hbd b o s e).1; have := (hob0 b e2).2; omega
            have HFAR := Lib.hid hfar
            have HBD := Lib.hid hbd
            obtain ⟨⟨hn9, hl9⟩, vs, ho9, hf9, hd9⟩ := hO2.ext ((Ext.refl wr).alloc (.cells #[.int .i64 1, .slice A1 j cA] 38))
            have HO9 := Lib.hid ho9
            clear P1 hO2 hfar hbd hob0 ho9 hf9 hd9
            have hji' : (j : Int) ≤ (j : Int) := Int.le_refl _
            go_wp2_with (at_builtin; go_loud (refine wpList_append_lies _ rfl (.tmp 27) (.tmp 29) 31 rfl (w.heap.size + 1) 38 i1 (.agg #[.int .i64 0, .slice none 0 0]) 2 32 Try.underlying31 hji hjz hjs hjb rfl (by decide) _ k vs rfl HO9.out ⟨wr.heap.size, 0, none⟩ 1 1 [.int .i64 1, .slice A1 j cA] rfl rfl (two_cells' (by simp [go_sem]) _ _ _) (two_one _ _ _ _) (by decide) (by unfold maxLen; omega) (by omega) (by go_size) _ rfl ?_))
            intro g cap wx hown hg hat hltg
            have HQ := Lib.hid (OwD.push (f := ⟨1, List.replicate j 1⟩) (top' := wx.heap.size) (A' := A1) (c' := cA) HO2.out (by omega) (by rw [List.length_replicate]; exact HV.out.lower (by omega))
              (fun b o s e => ⟨by have := (HBD.out b o s e).1; omega, by have h1 := (HBD.out b o s e).2; have h2 := hg.size; simp [go_sem] at h2; omega⟩) (by have h2 := hg.size; simp [go_sem] at h2; omega) HFAR.out
              (fun us hu => by have e := ownsRow_uniq (World.ownsRow.alloc hu (.cells #[.int .i64 1, .slice A1 j cA] 38)) HO9.out; subst e; rw [List.length_replicate]; exact hown) hg (hat.imp id (fun e => e.trans (by simp [go_sem]))))
            have hE9 : Ext wb wx := Ext.grown ((Ext.trans hE hEi).alloc _) hg (fun b hb => by have := (hob b hb).1; have := HBS.out; omega)
            clear hown hg hat
            go_wp2
            go_roundw
            case rel => exact ⟨k + 1, by go_num, by omega, ⟨_, _, rfl, Lib.hid (by rw [HZ.out]; exact HQ.out)⟩, hE9⟩
            case measure => simp only [intOf]; omega
      · have hkn : k = n0 := by omega
        have HT := Lib.hid (show (sizeP ar).take k = sizeP ar from List.take_of_length_le (by rw [sizeP_len, HL.out]; omega))
        go_wp2
        go_ret
        rw [HR.out]
        exact ⟨_, _, _, rfl, by rw [← HT.out]; exact hO.out.lower (Nat.le_succ _), hEw⟩

end Go.Proofs.Ytljbjabgdalabaa
