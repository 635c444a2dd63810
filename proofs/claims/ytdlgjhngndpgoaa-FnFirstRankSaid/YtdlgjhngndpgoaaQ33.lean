/- Several texts in one: DicU. -/
import Derived.Test.YtdlgjhngndpgoaaQ32
namespace Go.Proofs.Ytdlgjhngndpgoaa
open Go.RowKit
set_option linter.unusedSimpArgs false
set_option linter.unusedVariables false
theorem ownsRow_heap {w w' : World} {B : Nat} {T : TypeId} {sz n : Nat} {v : Value} {vs : List Value} (h : w.ownsRow B T sz v n vs) (hk : ∀ b, v.ownBlock = some b → w'.heap[b]? = w.heap[b]?) : w'.ownsRow B T sz v n vs := by
  refine ⟨h.1, ?_⟩
  rcases h.2 with h2 | ⟨g, cap, cur, hv, hg, hh, r⟩
  · exact .inl h2
  · exact .inr ⟨g, cap, cur, hv, hg, by rw [hk g (by rw [hv]; rfl)]; exact hh, r⟩
theorem ownsRow_at {w : World} {B : Nat} {T : TypeId} {sz n b : Nat} {v : Value} {vs : List Value} (h : w.ownsRow B T sz v n vs) (hb : v.ownBlock = some b) : B ≤ b ∧ b < w.heap.size ∧ ∃ cur, w.heap[b]? = some (.cells cur T (0, 0)) := by
  rcases h.2 with ⟨h2, _⟩ | ⟨g, cap, cur, hv, hg, hh, r⟩
  · rw [h2] at hb; cases hb
  · rw [hv] at hb; cases hb
    exact ⟨hg, (Array.getElem?_eq_some_iff.1 hh).1, cur, hh⟩
theorem OwI.blk {w : World} {B n c : Nat} {A : Option Addr} {xs : List Int} (h : OwI w B A n c xs) : A = none ∨ ∃ b cur, A = some ⟨b, 0, none⟩ ∧ B ≤ b ∧ w.heap[b]? = some (.cells cur 2 (0, 0)) := by
  rcases h.2.2 with ⟨hv, _⟩ | ⟨g, cap, cur, hv, hg, hh, r⟩
  · cases hv; exact .inl rfl
  · cases hv; exact .inr ⟨g, cur, rfl, hg, hh⟩
structure RowBox (T TB : TypeId) (sz : Nat) (bcs : Value → Array Value) (rcs : Array Value) (w0 w : World) (g p r : Nat) (S : Option Addr) (ns cs0 : Nat) (ss : List Int) (A : Option Addr) (n c : Nat) (xss : List (List Int)) : Prop where
  bx : w.heap[p]? = some (.cells (bcs (.slice A n c)) TB (0, 0))
  row : ∃ cs, w.ownsRow w0.heap.size T sz (.slice A n c) n cs ∧ cs.length = xss.length ∧ ∀ (j : Nat) (xs : List Int), xss[j]? = some xs → ∃ A' m' c', cs[j]? = some (.slice A' m' c') ∧ OwI w w0.heap.size A' m' c' xs
  sg : OwI w w0.heap.size S ns cs0 ss
  di : Dice w g
  on : Only w0 w g
  ge : w0.heap.size ≤ p
  gl : g < w0.heap.size
  rb : w.heap[r]? = some (.cells rcs TB (0, 0))
  rp : r ≠ p
  rge : w0.heap.size ≤ r
section
variable {T TB : TypeId} {sz : Nat} {bcs : Value → Array Value} {rcs : Array Value} {w0 w w' : World} {g p r ns cs0 : Nat} {S : Option Addr} {ss : List Int} {A : Option Addr} {n c : Nat} {xss : List (List Int)}
theorem RowBox.step (h : RowBox T TB sz bcs rcs w0 w g p r S ns cs0 ss A n c xss) (hD : Dice w' g) (hO : Only w w' g) : RowBox T TB sz bcs rcs w0 w' g p r S ns cs0 ss A n c xss := by
  have hb : ∀ b, w0.heap.size ≤ b → b < w.heap.size → w'.heap[b]? = w.heap[b]? := fun b h1 h2 => hO.block b h2 (fun e => by cases e; have := h.gl; omega)
  obtain ⟨cs, h1, h2, h3⟩ := h.row
  have hpl := (Array.getElem?_eq_some_iff.1 h.bx).1
  have hrl := (Array.getElem?_eq_some_iff.1 h.rb).1
  refine ⟨(hb p h.ge hpl).trans h.bx, ⟨cs, ownsRow_heap h1 (fun b e => ?_), h2, fun j xs hx => ?_⟩, ?_, hD, h.on.trans hO, h.ge, h.gl, (hb r h.rge hrl).trans h.rb, h.rp, h.rge⟩
  · obtain ⟨k1, k2, _⟩ := ownsRow_at h1 e; exact hb b k1 k2
  · obtain ⟨A', m', c', e1, e2⟩ := h3 j xs hx
    exact ⟨A', m', c', e1, e2.heap fun b e => by have := e2.bd b 0 none e; exact hb b this.1 this.2⟩
  · exact h.sg.heap fun b e => by have := h.sg.bd b 0 none e; exact hb b this.1 this.2
theorem RowBox.ext (h : RowBox T TB sz bcs rcs w0 w g p r S ns cs0 ss A n c xss) (k : Ext w w') : RowBox T TB sz bcs rcs w0 w' g p r S ns cs0 ss A n c xss := h.step (h.di.ext k) (Only.of_ext k g)
theorem RowBox.lt (h : RowBox T TB sz bcs rcs w0 w g p r S ns cs0 ss A n c xss) : p < w.heap.size := (Array.getElem?_eq_some_iff.1 h.bx).1
theorem RowBox.push {wx : World} {A2 : Option Addr} {c2 k q : Nat} {cs new : List Value} {yss : List (List Int)} {o : Obj} (h : RowBox T TB sz bcs rcs w0 w g p r S ns cs0 ss A n c xss)
    (hT1 : T ≠ 2) (hT2 : TB ≠ T) (hT3 : TB ≠ 2) (hset : ∀ v v', (bcs v).setIfInBounds q v' = bcs v')
    (hrow : w.ownsRow w0.heap.size T sz (.slice A n c) n cs) (hcl : cs.length = xss.length) (hel : ∀ (j : Nat) (xs : List Int), xss[j]? = some xs → ∃ A' m' c', cs[j]? = some (.slice A' m' c') ∧ OwI w w0.heap.size A' m' c' xs)
    (hnl : new.length = yss.length) (hnew : ∀ (j : Nat) (xs : List Int), yss[j]? = some xs → ∃ A' m' c', new[j]? = some (.slice A' m' c') ∧ OwI w w0.heap.size A' m' c' xs)
    (hown : wx.ownsRow w0.heap.size T sz (.slice A2 k c2) k (cs ++ new)) (hg : (w.alloc o).grownBy wx (Value.slice A n c).ownBlock) :
    RowBox T TB sz bcs rcs w0 (wx.setCell ⟨p, q, none⟩ (.slice A2 k c2)) g p r S ns cs0 ss A2 k c2 (xss ++ yss) := by
  have hpl := h.lt
  have hrl := (Array.getElem?_eq_some_iff.1 h.rb).1
  have hold : ∀ b, b < w.heap.size → (Value.slice A n c).ownBlock ≠ some b → wx.heap[b]? = w.heap[b]? := fun b h1 h2 =>
    (hg.block b (by simp; omega) (fun e => h2 e.symm)).trans (((Ext.refl w).alloc o).block b h1)
  have hrowt : ∀ b, (Value.slice A n c).ownBlock = some b → w0.heap.size ≤ b ∧ ∃ cur, w.heap[b]? = some (.cells cur T (0, 0)) := fun b e => by
    obtain ⟨k1, _, k2⟩ := ownsRow_at hrow e; exact ⟨k1, k2⟩
  have hpne : (Value.slice A n c).ownBlock ≠ some p := fun e => by
    obtain ⟨_, cur, k2⟩ := hrowt p e
    rw [h.bx] at k2; cases k2; exact hT2 rfl
  have hrne : (Value.slice A n c).ownBlock ≠ some r := fun e => by
    obtain ⟨_, cur, k2⟩ := hrowt r e
    rw [h.rb] at k2; cases k2; exact hT2 rfl
  have hpx : wx.heap[p]? = some (.cells (bcs (.slice A n c)) TB (0, 0)) := (hold p hpl hpne).trans h.bx
  have hrx : wx.heap[r]? = some (.cells rcs TB (0, 0)) := (hold r hrl hrne).trans h.rb
  have hkeep : ∀ {A' : Option Addr} {m' c' : Nat} {xs : List Int}, OwI w w0.heap.size A' m' c' xs → OwI (wx.setCell ⟨p, q, none⟩ (.slice A2 k c2)) w0.heap.size A' m' c' xs := fun {A' m' c' xs} hO => by
    refine hO.heap fun b e => ?_
    rcases hO.blk with e0 | ⟨b', cur, e0, _, hb⟩
    · rw [e0] at e; cases e
    · rw [e0] at e; cases e
      have hne : (Value.slice A n c).ownBlock ≠ some b := fun e2 => by
        obtain ⟨_, cur2, k2⟩ := hrowt b e2
        rw [hb] at k2; cases k2; exact hT1 rfl
      have hbp : b ≠ p := fun e2 => by subst e2; rw [h.bx] at hb; cases hb; exact hT3 rfl
      rw [Below.heap_setCell _ _ _ _ hbp]
      exact hold b (Array.getElem?_eq_some_iff.1 hb).1 hne
  refine ⟨?_, ⟨cs ++ new, ownsRow_heap hown (fun b e => ?_), by simp [hcl, hnl], fun j xs hx => ?_⟩, hkeep h.sg, ?_, ?_, h.ge, h.gl, ?_, h.rp, h.rge⟩
  · simp [World.setCell, Array.getElem?_modify, hpx, hset]
  · obtain ⟨_, _, cur, k2⟩ := ownsRow_at hown e
    refine Below.heap_setCell _ _ _ _ (fun e2 => ?_)
    have e2' : b = p := e2
    subst e2'
    rw [hpx] at k2; cases k2; exact hT2 rfl
  · rcases Nat.lt_or_ge j xss.length with hj | hj
    · rw [List.getElem?_append_left hj] at hx
      obtain ⟨A', m', c', e1, e2⟩ := hel j xs hx
      exact ⟨A', m', c', by rw [List.getElem?_append_left (by omega)]; exact e1, hkeep e2⟩
    · rw [List.getElem?_append_right hj] at hx
      obtain ⟨A', m', c', e1, e2⟩ := hnew _ xs hx
      exact ⟨A', m', c', by rw [List.getElem?_append_right (by omega), hcl]; exact e1, hkeep e2⟩
  · refine (Dice.grown (h.di.ext ((Ext.refl w).alloc o)) hg fun b e => ?_).below (Below.setCell (Below.refl _ _) (by show g + 1 ≤ p; have := h.ge; have := h.gl; omega) _)
    have := (hrowt b e).1; have := h.gl; omega
  · refine (Only.grown (h.on.trans (Only.of_ext ((Ext.refl w).alloc o) g)) hg fun b e => (hrowt b e).1).grown (Only.setCell _ _ _ _) (fun b e => by cases e; exact h.ge)
  · rw [Below.heap_setCell _ _ _ _ h.rp]; exact hrx
end
theorem sigR3 : SigP [2, 1, (0 : Int)] := sigOk_iff.1 (by first | rfl | decide | simp [sigOk, SigP])
theorem tm3 {u : Tm} {d : Nat} {vars : Int} (hv : vars ≤ 24) (hd : d ≤ 3) (hu : u.Ok [2, 1, 0]) (hn : u.flat.length ≤ bdT d) (hx : ∀ x ∈ u.flat, -vars ≤ x) : TermP [2, 1, 0] u.flat :=
  termP_flat sigR3 hu (by have := bdT_le hd; omega) (fun x h => by have := hx x h; omega)
end Go.Proofs.Ytdlgjhngndpgoaa
