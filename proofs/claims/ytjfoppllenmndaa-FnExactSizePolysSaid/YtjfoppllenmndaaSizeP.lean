/- SizePolys of both. -/
import Derived.Test.YtjfoppllenmndaaFormD
import Derived.Test.YtjfoppllenmndaaMarkT
import Derived.Test.YtjfoppllenmndaaSig
import Derived.Test.YtjfoppllenmndaaPG
-- rd: RdPl RdPs
namespace Go.Proofs.Ytjfoppllenmndaa
open Go.RowKit
set_option linter.unusedSimpArgs false
set_option linter.unusedVariables false

/-- The blocks of the factors of some polynomials. -/
def blkAt (vs : List Value) (j : Nat) : Option Nat := match vs[j * 2 + 1]? with | some (.slice (some a) _ _) => some a.block | _ => none
/-- A growing slice of polynomials of the call's own, their factors in blocks apart, all but the row's own below a bound. -/
def OwD (w : World) (B top : Nat) (A : Option Addr) (n c : Nat) (fs : List Pl) : Prop :=
  (n ≤ 4194304 ∧ fs.length = n) ∧ ∃ vs, w.ownsRow B 86 2 (.slice A n c) n vs ∧ (∀ (j : Nat) (f : Pl), fs[j]? = some f →
    vs[j * 2]? = some (.int .i64 f.c) ∧ ∃ A' c', vs[j * 2 + 1]? = some (.slice A' f.cf.length c') ∧ OwI w B A' f.cf.length c' f.cf ∧ ∀ b o s, A' = some ⟨b, o, s⟩ → (Value.slice A n c).ownBlock ≠ some b) ∧
    ∀ j b, j < n → blkAt vs j = some b → b < top ∧ ∀ i, i < n → i ≠ j → blkAt vs i ≠ some b
theorem OwD.q {w : World} {B top n c : Nat} {A : Option Addr} {fs : List Pl} (h : OwD w B top A n c fs) : OwQ w B A n c fs := by
  obtain ⟨h1, vs, h2, h3, _⟩ := h; exact ⟨h1, vs, h2, h3⟩
theorem OwD.nil (w : World) (B top : Nat) : OwD w B top none 0 0 [] := ⟨⟨by omega, rfl⟩, [], World.ownsRow_nil _ _ _ _, fun j f h => by simp at h, fun j b h => by omega⟩
theorem OwD.mono {w : World} {B top top' n c : Nat} {A : Option Addr} {fs : List Pl} (h : OwD w B top A n c fs) (ht : top ≤ top') : OwD w B top' A n c fs := by
  obtain ⟨h1, vs, h2, h3, h4⟩ := h
  exact ⟨h1, vs, h2, h3, fun j b hj hb => by have := h4 j b hj hb; exact ⟨by omega, this.2⟩⟩
theorem OwD.ext {w w' : World} {B top n c : Nat} {A : Option Addr} {fs : List Pl} (h : OwD w B top A n c fs) (k : Ext w w') : OwD w' B top A n c fs := by
  obtain ⟨h1, vs, ho, hf, hd⟩ := h
  refine ⟨h1, vs, ⟨ho.1, ?_⟩, fun j f hj => ?_, hd⟩
  · rcases ho.2 with h2 | ⟨g, cap, cur, hv, hg, hh, r⟩
    · exact .inl h2
    · exact .inr ⟨g, cap, cur, hv, hg, (k.block g (Array.getElem?_eq_some_iff.1 hh).1).trans hh, r⟩
  · obtain ⟨e1, A', c', e2, e3, e4⟩ := hf j f hj
    exact ⟨e1, A', c', e2, e3.ext k, e4⟩
theorem blkAt_left {vs ws : List Value} {j : Nat} (h : j * 2 + 1 < vs.length) : blkAt (vs ++ ws) j = blkAt vs j := by
  unfold blkAt; rw [List.getElem?_append_left h]
/-- One more, its factors in a block behind the bound. -/
theorem OwD.push {w wx : World} {B top top' n c g cap : Nat} {A A' : Option Addr} {c' : Nat} {fs : List Pl} {f : Pl} {o : Obj} (h : OwD w B top A n c fs) (h1 : n + 1 ≤ 4194304) (hO : OwI w B A' f.cf.length c' f.cf) (hnew : ∀ b o s, A' = some ⟨b, o, s⟩ → top ≤ b ∧ b < top') (htop : top ≤ top')
    (hfar : ∀ b o s, A' = some ⟨b, o, s⟩ → (Value.slice A n c).ownBlock ≠ some b)
    (hown : ∀ vs, w.ownsRow B 86 2 (.slice A n c) n vs → wx.ownsRow B 86 2 (.slice (some ⟨g, 0, none⟩) (n + 1) cap) (n + 1) (vs ++ [.int .i64 f.c, .slice A' f.cf.length c']))
    (hg : (w.alloc o).grownBy wx (Value.slice A n c).ownBlock) (hat : (Value.slice A n c).ownBlock = some g ∨ g = (w.alloc o).heap.size) :
    OwD wx B top' (some ⟨g, 0, none⟩) (n + 1) cap (fs ++ [f]) := by
  obtain ⟨⟨hn, hl⟩, vs, ho, hf, hd⟩ := h
  have hvl : vs.length = n * 2 := ho.1
  have hq := OwQ.push (w := w) h1 hl hvl hf hO hfar (hown vs ho) hg hat
  obtain ⟨k1, us, k2, k3⟩ := hq
  have hus : us = vs ++ [.int .i64 f.c, .slice A' f.cf.length c'] := by
    rcases k2.2 with ⟨e, _⟩ | ⟨g1, cap1, cur1, e1, _, hh1, _, _, _, ht1⟩
    · cases e
    · rcases (hown vs ho).2 with ⟨e, _⟩ | ⟨g2, cap2, cur2, e2, _, hh2, _, _, _, ht2⟩
      · cases e
      · cases e1; cases e2
        rw [hh1] at hh2; cases hh2
        rw [← ht1, ht2]
  subst hus
  have hlast : blkAt (vs ++ [.int .i64 f.c, .slice A' f.cf.length c']) n = A'.map (·.block) := by
    unfold blkAt
    rw [List.getElem?_append_right (by omega), hvl, show n * 2 + 1 - n * 2 = 1 by omega]
    cases A' <;> rfl
  refine ⟨k1, _, k2, k3, fun j b hj hb => ?_⟩
  rcases Nat.lt_or_ge j n with hjn | hjn
  · rw [blkAt_left (by omega)] at hb
    have h5 := hd j b hjn hb
    refine ⟨by omega, fun i hi hij => ?_⟩
    rcases Nat.lt_or_ge i n with hin | hin
    · rw [blkAt_left (by omega)]; exact h5.2 i hin hij
    · obtain rfl : i = n := by omega
      rw [hlast]
      cases A' with
      | none => simp
      | some p => obtain ⟨b2, o2, s2⟩ := p; have := (hnew b2 o2 s2 rfl).1; simp; omega
  · obtain rfl : j = n := by omega
    rw [hlast] at hb
    cases A' with
    | none => cases hb
    | some p =>
      obtain ⟨b2, o2, s2⟩ := p
      have h6 := hnew b2 o2 s2 rfl
      have hbb : b2 = b := by simpa using hb
      subst hbb
      refine ⟨h6.2, fun i hi hij => ?_⟩
      rw [blkAt_left (by omega)]
      intro e
      have := (hd i b2 (by omega) e).1
      omega
def adA (vs : List Value) (j : Nat) : Option Addr := match vs[j * 2 + 1]? with | some (.slice a _ _) => a | _ => none
def adC (vs : List Value) (j : Nat) : Nat := match vs[j * 2 + 1]? with | some (.slice _ _ c) => c | _ => 0
theorem adA_of {vs : List Value} {j n c : Nat} {a : Option Addr} (h : vs[j * 2 + 1]? = some (.slice a n c)) : adA vs j = a := by unfold adA; rw [h]
theorem adC_of {vs : List Value} {j n c : Nat} {a : Option Addr} (h : vs[j * 2 + 1]? = some (.slice a n c)) : adC vs j = c := by unfold adC; rw [h]
theorem blkAt_of {vs : List Value} {j b o : Nat} {s : Option Nat} (h : adA vs j = some ⟨b, o, s⟩) : blkAt vs j = some b := by
  unfold adA at h
  unfold blkAt
  split at h
  · rename_i a x y hq
    rw [hq]; subst h; rfl
  · cases h
/-- What marks need of them. -/
theorem OwD.pi {w : World} {B top n c : Nat} {A : Option Addr} {fs : List Pl} (h : OwD w B top A n c fs) : OwPI w B w.heap.size A n := by
  obtain ⟨⟨hn, hl⟩, vs, ho, hf, hd⟩ := h
  refine ⟨hn, ?_⟩
  have hvl : vs.length = n * 2 := ho.1
  rcases ho.2 with ⟨e, e2⟩ | ⟨g, cap, cur, e, hg, hh, hnc, _, hcs, ht⟩
  · cases e; exact .inl ⟨rfl, e2⟩
  · cases e
    have hgl : g < w.heap.size := (Array.getElem?_eq_some_iff.1 hh).1
    have hcur : ∀ i, i < n * 2 → cur[i]? = vs[i]? := fun i hi => by
      rw [← ht, List.getElem?_take, if_pos hi]; simp
    refine .inr ⟨g, cur, adA vs, fun j => (fs.getD j ⟨0, []⟩).cf.length, adC vs, rfl, hg, hgl, hh, by omega, fun j hj => ?_⟩
    have hp : fs[j]? = some (fs.getD j ⟨0, []⟩) := by rw [List.getD_eq_getElem?_getD, List.getElem?_eq_getElem (by omega)]; rfl
    obtain ⟨h1, A', c', h2, h3, h4⟩ := hf j _ hp
    refine ⟨⟨_, by rw [hcur _ (by omega)]; exact h1⟩, ?_, ⟨(fs.getD j ⟨0, []⟩).cf, ?_⟩, fun b o s e => ?_⟩
    · rw [hcur _ (by omega), h2, adA_of h2, adC_of h2]
    · rw [adA_of h2, adC_of h2]; exact h3
    have hbj := blkAt_of e
    rw [adA_of h2] at e
    have hbd := h3.bd b o s e
    refine ⟨hbd.2, fun eg => h4 b o s e (by rw [eg]; rfl), fun i hi hij b' o' s' e' eb => ?_⟩
    exact (hd j b hj hbj).2 i hi hij (by rw [blkAt_of e', eb])

end Go.Proofs.Ytjfoppllenmndaa
