/- A growing slice of forms of the call's own. -/
import Derived.Test.YtljbjabgdalabaaPB
import Derived.Test.YtljbjabgdalabaaPoly
import Derived.Test.YtljbjabgdalabaaArgs
namespace Go.Proofs.Ytljbjabgdalabaa
open Go.RowKit
set_option linter.unusedSimpArgs false
set_option linter.unusedVariables false

/-- A slice of polynomials of the call's own, each one's factors in another block of its own. -/
def OwQ (w : World) (B : Nat) (A : Option Addr) (n c : Nat) (fs : List Pl) : Prop :=
  (n ≤ 4194304 ∧ fs.length = n) ∧ ∃ vs, w.ownsRow B 38 2 (.slice A n c) n vs ∧ ∀ (j : Nat) (f : Pl), fs[j]? = some f →
    vs[j * 2]? = some (.int .i64 f.c) ∧ ∃ A' c', vs[j * 2 + 1]? = some (.slice A' f.cf.length c') ∧ OwI w B A' f.cf.length c' f.cf ∧ ∀ b o s, A' = some ⟨b, o, s⟩ → (Value.slice A n c).ownBlock ≠ some b
section
variable {w w' wx : World} {B : Nat} {A A' : Option Addr} {n c c' g cap : Nat} {fs : List Pl} {f : Pl} {o : Obj} {vs : List Value}
theorem OwQ.nil (w : World) (B : Nat) : OwQ w B none 0 0 [] := ⟨⟨by omega, rfl⟩, [], World.ownsRow_nil _ _ _ _, fun j f h => by simp at h⟩
theorem OwQ.ob (h : OwQ w B A n c fs) : ∀ k, (Value.slice A n c).ownBlock = some k → B ≤ k ∧ k < w.heap.size := by
  obtain ⟨_, vs, ho, _⟩ := h
  exact World.ownsRow.lt ho
theorem OwQ.ext (h : OwQ w B A n c fs) (k : Ext w w') : OwQ w' B A n c fs := by
  obtain ⟨h1, vs, ho, hf⟩ := h
  refine ⟨h1, vs, ⟨ho.1, ?_⟩, fun j f hj => ?_⟩
  · rcases ho.2 with h2 | ⟨g, cap, cur, hv, hg, hh, r⟩
    · exact .inl h2
    · exact .inr ⟨g, cap, cur, hv, hg, (k.block g (Array.getElem?_eq_some_iff.1 hh).1).trans hh, r⟩
  · obtain ⟨e1, A', c', e2, e3, e4⟩ := hf j f hj
    exact ⟨e1, A', c', e2, e3.ext k, e4⟩
theorem OwQ.rp (h : OwQ w B A n c fs) : RP w A n fs := by
  obtain ⟨⟨hn, hl⟩, vs, ho, hf⟩ := h
  refine ⟨⟨hl, hn⟩, fun h0 => ?_⟩
  have hvl : vs.length = n * 2 := ho.1
  obtain ⟨g, cap, hv, _, hlt⟩ := World.ownsRow.form ho h0
  cases hv
  refine ⟨g, 0, rfl, fun j p hp => ?_⟩
  have hj : j < n := by have := (List.getElem?_eq_some_iff.1 hp).1; omega
  obtain ⟨e1, A', c', e2, e3, _⟩ := hf j p hp
  refine ⟨?_, A', _, c', ?_, e3.ri⟩
  · rw [Nat.zero_add, World.ownsRow.cellAt ho _ (by omega)]; exact e1
  · rw [Nat.zero_add, World.ownsRow.cellAt ho _ (by omega)]; exact e2
theorem two_cells (w : World) (x y : Value) (t : TypeId) : ∀ (j : Nat) (u : Value), [x, y][j]? = some u → (w.alloc (.cells #[x, y] t)).cell? ((⟨w.heap.size, 0, none⟩ : Addr).add j) = some u := by
  intro j u hj
  match j, hj with
  | 0, hj => simp at hj; subst hj; simp [Addr.add, go_sem]
  | 1, hj => simp at hj; subst hj; simp [Addr.add, go_sem]
theorem two_cells' {w : World} {H : Nat} (hH : w.heap.size = H) (x y : Value) (t : TypeId) : ∀ (j : Nat) (u : Value), [x, y][j]? = some u → (w.alloc (.cells #[x, y] t)).cell? ((⟨H, 0, none⟩ : Addr).add j) = some u := by
  subst hH; exact two_cells w x y t
theorem two_one (x : Int) (A : Option Addr) (n c : Nat) : ∀ u ∈ [Value.int .i64 x, Value.slice A n c], u.oneCell' = true := by
  intro u hu
  simp at hu
  rcases hu with rfl | rfl <;> rfl
/-- One more. -/
theorem OwQ.push (h1 : n + 1 ≤ 4194304) (hl : fs.length = n) (hvl : vs.length = n * 2)
    (hf : ∀ (j : Nat) (f : Pl), fs[j]? = some f → vs[j * 2]? = some (.int .i64 f.c) ∧ ∃ A' c', vs[j * 2 + 1]? = some (.slice A' f.cf.length c') ∧ OwI w B A' f.cf.length c' f.cf ∧ ∀ b o s, A' = some ⟨b, o, s⟩ → (Value.slice A n c).ownBlock ≠ some b)
    (hO : OwI w B A' f.cf.length c' f.cf) (hfar : ∀ b o s, A' = some ⟨b, o, s⟩ → (Value.slice A n c).ownBlock ≠ some b)
    (hown : wx.ownsRow B 38 2 (.slice (some ⟨g, 0, none⟩) (n + 1) cap) (n + 1) (vs ++ [.int .i64 f.c, .slice A' f.cf.length c']))
    (hg : (w.alloc o).grownBy wx (Value.slice A n c).ownBlock) (hat : (Value.slice A n c).ownBlock = some g ∨ g = (w.alloc o).heap.size) :
    OwQ wx B (some ⟨g, 0, none⟩) (n + 1) cap (fs ++ [f]) := by
  have hsz : (w.alloc o).heap.size = w.heap.size + 1 := by simp [go_sem]
  have hkeep : ∀ (A'' : Option Addr) (c'' : Nat) (q : Pl), OwI w B A'' q.cf.length c'' q.cf → (∀ b o s, A'' = some ⟨b, o, s⟩ → (Value.slice A n c).ownBlock ≠ some b) →
      OwI wx B A'' q.cf.length c'' q.cf ∧ ∀ b o s, A'' = some ⟨b, o, s⟩ → (Value.slice (some ⟨g, 0, none⟩) (n + 1) cap).ownBlock ≠ some b := by
    intro A'' c'' q hq hfq
    refine ⟨hq.heap fun b hb => ?_, fun b o s e e2 => ?_⟩
    · have hb1 := hq.bd _ _ _ hb
      exact (hg.block b (by omega) (fun e => hfq b 0 none hb e.symm)).trans ((Ext.alloc (Ext.refl w) o).block b hb1.2)
    · have hb1 := hq.bd _ _ _ e
      simp [Value.ownBlock] at e2
      subst e2
      rcases hat with e3 | e3
      · exact hfq g o s e e3
      · omega
  refine ⟨⟨h1, by simp [hl]⟩, _, hown, fun j q hq => ?_⟩
  rcases Nat.lt_or_ge j n with hj | hj
  · rw [List.getElem?_append_left (by omega)] at hq
    obtain ⟨e1, A'', c'', e2, e3, e4⟩ := hf j q hq
    obtain ⟨k1, k2⟩ := hkeep A'' c'' q e3 e4
    exact ⟨by rw [List.getElem?_append_left (by omega)]; exact e1, A'', c'', by rw [List.getElem?_append_left (by omega)]; exact e2, k1, k2⟩
  · have hjn : j = n := by have := (List.getElem?_eq_some_iff.1 hq).1; simp [hl] at this; omega
    subst hjn
    rw [List.getElem?_append_right (by omega), hl, Nat.sub_self] at hq
    cases hq
    obtain ⟨k1, k2⟩ := hkeep A' c' f hO hfar
    exact ⟨by rw [List.getElem?_append_right (by omega), hvl, Nat.sub_self]; rfl, A', c', by rw [List.getElem?_append_right (by omega), hvl, show j * 2 + 1 - j * 2 = 1 by omega]; rfl, k1, k2⟩
end

end Go.Proofs.Ytljbjabgdalabaa
