/- Weights by dice. -/
import Derived.Test.YtejmlbcafemieaaDicT
import Derived.Test.YtejmlbcafemieaaMWt
import Derived.Test.YtejmlbcafemieaaHeld
namespace Go.Proofs.Ytejmlbcafemieaa
open Go.RowKit
set_option linter.unusedSimpArgs false
set_option linter.unusedVariables false

theorem RI.blt {w : World} {A : Option Addr} {n : Nat} {xs : List Int} (h : RI w A n xs) (hn : 0 < n) : ∀ b o s, A = some ⟨b, o, s⟩ → b < w.heap.size := fun b o s e => by
  obtain ⟨_, _, x0, e3, _, hc0⟩ := RI.at_ h hn
  rw [e] at e3
  cases e3
  exact World.block_lt_of_cell? w _ hc0
/-- The box of the weights that are being made. -/
structure WtBox (wp w' : World) (g r p : Nat) (var : Int) (A : Option Addr) (rk : List Int) : Prop where
  c0 : w'.cell? ⟨p, 0, none⟩ = some (.int .i64 var)
  c1 : ∃ v, w'.cell? ⟨p, 1, none⟩ = some v
  c2 : w'.cell? ⟨p, 2, none⟩ = some (.slice A 3 3)
  fr : ∀ j, w'.frozen? ⟨p, j, none⟩ = false
  di : Dice w' g
  on : Only wp w' g
  ne : p ≠ g
  rb : w'.heap[r]? = some (.cells #[.int .i64 0, .slice none 0 0, .slice none 0 0] 70 (0, 0))
  re : r ≠ g
  rp : r ≠ p
  ge : wp.heap.size ≤ p
  gp : g < p
  ra : RIg w' g A 3 rk
  ap : ∀ b o s, A = some ⟨b, o, s⟩ → b ≠ p
section
variable {wp w w' : World} {g r p : Nat} {var : Int} {A : Option Addr} {rk : List Int}
theorem WtBox.lt (h : WtBox wp w g r p var A rk) : p < w.heap.size := World.block_lt_of_cell? w ⟨p, 0, none⟩ h.c0
theorem WtBox.step (h : WtBox wp w g r p var A rk) (hD : Dice w' g) (hO : Only w w' g) : WtBox wp w' g r p var A rk := by
  have hb := hO.block p h.lt (fun e => h.ne (by cases e; rfl))
  obtain ⟨v, hv⟩ := h.c1
  exact ⟨(World.cell?_of_block (w := w) (w' := w') (a := ⟨p, 0, none⟩) hb).trans h.c0, ⟨v, (World.cell?_of_block (w := w) (w' := w') (a := ⟨p, 1, none⟩) hb).trans hv⟩, (World.cell?_of_block (w := w) (w' := w') (a := ⟨p, 2, none⟩) hb).trans h.c2,
    fun j => (World.frozen?_of_block (w := w) (w' := w') (a := ⟨p, j, none⟩) hb).trans (h.fr j), hD, h.on.trans hO, h.ne,
    (hO.block r (Array.getElem?_eq_some_iff.1 h.rb).1 (fun e => h.re (by cases e; rfl))).trans h.rb, h.re, h.rp, h.ge, h.gp, h.ra.only hO, h.ap⟩
theorem WtBox.set (h : WtBox wp w g r p var A rk) (v : Value) : WtBox wp (w.setCell ⟨p, 1, none⟩ v) g r p var A rk := by
  obtain ⟨u, hu⟩ := h.c1
  refine ⟨(World.cell?_setCell_other _ _ _ _ (by simp)).trans h.c0, ⟨v, World.cell?_setCell_same _ _ _ hu⟩, (World.cell?_setCell_other _ _ _ _ (by simp)).trans h.c2, fun j => by simp [h.fr], h.di.below (Below.setCell (Below.refl _ _) h.gp _), h.on.grown (Only.setCell _ _ _ _) (fun b e => by cases e; exact h.ge), h.ne, ?_, h.re, h.rp, h.ge, h.gp, ⟨RI.only h.ra.1 (Only.setCell _ p _ _) (fun b o s e _ => h.ap b o s e), h.ra.2⟩, h.ap⟩
  rw [Below.heap_setCell _ _ _ _ (show r ≠ p from h.rp)]; exact h.rb
theorem WtBox.alloc (h : WtBox wp w g r p var A rk) (o : Obj) : WtBox wp (w.alloc o) g r p var A rk := h.step (h.di.ext ((Ext.refl w).alloc o)) (Only.of_ext ((Ext.refl w).alloc o) g)
end
theorem permR_ok {rk : List Int} (h : PermR rk) : RankP [2, 1, 0] rk := by
  have hs : SigP [2, 1, (0 : Int)] := sigOk_iff.1 (by first | rfl | decide | simp [sigOk, SigP])
  unfold PermR at h
  simp only [List.mem_cons, List.not_mem_nil, or_false] at h
  rcases h with rfl | rfl | rfl | rfl | rfl | rfl <;> exact ⟨hs, rfl, fun i hi => by
    match i, hi with
    | 0, _ | 1, _ | 2, _ => simp⟩
theorem wt_sym {var s0 s1 s2 : Int} {rk : List Int} (hv : 1 ≤ var ∧ var ≤ 2) (h0 : 0 ≤ s0 ∧ s0 < 3) (h1 : 0 ≤ s1 ∧ s1 < 3) (h2 : 0 ≤ s2 ∧ s2 < 2) (hp : PermR rk) (h : s1 = 0 → rk[1]? = some 2) : WtP [2, 1, 0] ⟨var, [s0, s1, var + s2], rk⟩ := by
  have hr := permR_ok hp
  have hrl : rk.length = 3 := hr.2.1
  refine ⟨hr, rfl, ⟨hv.1, by show var ≤ 20; omega⟩, fun j s a r e1 e2 e3 => ?_⟩
  show WtAt var rk.length s a r
  rw [hrl]
  match j, e1, e2 with
  | 0, e1, e2 => cases e1; cases e2; exact ⟨by omega, by omega, by omega⟩
  | 1, e1, e2 =>
    cases e1; cases e2
    refine ⟨by omega, by omega, fun _ hs => ?_⟩
    have := h hs
    have e3' : rk[1]? = some r := e3
    rw [this] at e3'; cases e3'; rfl
  | 2, e1, e2 => cases e1; cases e2; exact ⟨by omega, by omega, by omega⟩
theorem wt_done {w w6 : World} {g r q : Nat} {A : Option Addr} {sy rk : List Int} {v0 v1 v2 : Value} (hD : Dice w6 g) (hO : Only w w6 g) (hr : w.heap.size ≤ r) (hg : g < r) (hq : RI w6 (some ⟨q, 0, none⟩) 3 sy) (hqg : q ≠ g) (hqr : q ≠ r) (hA : RIg w6 g A 3 rk) (hAr : ∀ b o s, A = some ⟨b, o, s⟩ → b ≠ r) :
    RIg (((w6.setCell ⟨r, 0, none⟩ v0).setCell ⟨r, 1, none⟩ v1).setCell ⟨r, 2, none⟩ v2) g (some ⟨q, 0, none⟩) 3 sy ∧ RIg (((w6.setCell ⟨r, 0, none⟩ v0).setCell ⟨r, 1, none⟩ v1).setCell ⟨r, 2, none⟩ v2) g A 3 rk ∧
      Dice (((w6.setCell ⟨r, 0, none⟩ v0).setCell ⟨r, 1, none⟩ v1).setCell ⟨r, 2, none⟩ v2) g ∧ Only w (((w6.setCell ⟨r, 0, none⟩ v0).setCell ⟨r, 1, none⟩ v1).setCell ⟨r, 2, none⟩ v2) g := by
  have hS : Only w6 (((w6.setCell ⟨r, 0, none⟩ v0).setCell ⟨r, 1, none⟩ v1).setCell ⟨r, 2, none⟩ v2) r := ((Only.setCell _ _ _ _).trans (Only.setCell _ _ _ _)).trans (Only.setCell _ _ _ _)
  refine ⟨⟨RI.only hq hS (fun b o s e _ => by cases e; exact hqr), fun b o s e => by cases e; exact hqg⟩, ⟨RI.only hA.1 hS (fun b o s e _ => hAr b o s e), hA.2⟩, hD.grown hS (fun b e => by cases e; exact hg), hO.grown hS (fun b e => by cases e; exact hr)⟩

end Go.Proofs.Ytejmlbcafemieaa
