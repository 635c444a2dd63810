/- The reference's path orders: the table is filled. -/
import Derived.Test.YtejmlbcafemieaaLpsN
namespace Go.Proofs.Ytejmlbcafemieaa
open Go.RowKit
set_option linter.unusedSimpArgs false
set_option linter.unusedVariables false

def putV (V : Nat → Nat → Int) (i j : Nat) (v : Int) : Nat → Nat → Int := fun a b => if a = i ∧ b = j then v else V a b
theorem RI.farS {w w' : World} {b o n : Nat} {xs : List Int} (h : RI w (some ⟨b, o, none⟩) n xs) (hk : w'.heap[b]? = w.heap[b]?) : RI w' (some ⟨b, o, none⟩) n xs :=
  ⟨h.1, fun hn => by
    obtain ⟨b', o', e, hc⟩ := h.2 hn
    cases e
    exact ⟨b, o, rfl, fun j x hx => (World.cell?_of_block hk).trans (hc j x hx)⟩⟩
/-- One more place of the table is told. -/
theorem SC.H.put {Y : SC} {w : World} {V : Nat → Nat → Int} (h : Y.H w V) {i j : Nat} (hi : i < Y.k) (v : Int) : Y.H (w.setCell ⟨Y.row i, j, none⟩ (.int .i64 v)) (putV V i j v) := by
  obtain ⟨f1, f2, f3, f4, f5, f6, f7, f8⟩ := h.far i hi
  have hs : ∀ b, b ≠ Y.row i → (w.setCell ⟨Y.row i, j, none⟩ (.int .i64 v)).heap[b]? = w.heap[b]? := fun b hb => Below.heap_setCell _ _ _ _ hb
  have hc : ∀ {b o u}, b ≠ Y.row i → w.cell? ⟨b, o, none⟩ = some u → (w.setCell ⟨Y.row i, j, none⟩ (.int .i64 v)).cell? ⟨b, o, none⟩ = some u := fun hb e => (World.cell?_of_block (hs _ hb)).trans e
  have hargs : ∀ {ar t : List Int} {pa : Nat}, pa ≠ Y.row i → ArgsIn w ar t pa Y.row Y.k → ArgsIn (w.setCell ⟨Y.row i, j, none⟩ (.int .i64 v)) ar t pa Y.row Y.k := fun hp ha q hq => by
    obtain ⟨A, c, h1, h2, h3⟩ := ha q hq
    refine ⟨A, c, hc hp h1, ⟨h2.1, fun hn => ?_⟩, h3⟩
    obtain ⟨b, o, e, h4⟩ := h2.2 hn
    exact ⟨b, o, e, fun r x hx => hc (h3 b o none e i hi) (h4 r x hx)⟩
  refine ⟨h.a.farS (hs _ (Ne.symm f1)), h.r.farS (hs _ (Ne.symm f2)), h.s.farS (hs _ (Ne.symm f3)), h.t.farS (hs _ (Ne.symm f4)), hc (Ne.symm f5) h.c0, hc (Ne.symm f5) h.c1, hc (Ne.symm f5) h.c2, hc (Ne.symm f5) h.c3, hc (Ne.symm f5) h.c4, hc (Ne.symm f5) h.c5, hc (Ne.symm f5) h.c6, hargs (Ne.symm f6) h.sa, hargs (Ne.symm f7) h.ta, fun a ha => hc (Ne.symm f8) (h.wy a ha), fun a b ha hb => ?_, fun a b ha => by rw [World.frozen?_setCell]; exact h.fr a b ha, fun a ha => by simpa [World.setCell] using h.lt a ha, h.one, h.far⟩
  unfold putV
  by_cases e : a = i ∧ b = j
  · obtain ⟨rfl, rfl⟩ := e
    rw [if_pos ⟨rfl, rfl⟩]
    exact World.cell?_setCell_same _ _ _ (h.v a b ha hb)
  · rw [if_neg e]
    by_cases e2 : a = i
    · subst e2
      rw [World.cell?_setCell_other _ _ _ _ (by first | (simp; done) | (simp; omega) | (simp; intro e3; exact absurd ⟨rfl, e3⟩ e) | (simp; intro e3; exact absurd ⟨rfl, e3.symm⟩ e))]
      exact h.v a b ha hb
    · exact hc (fun e3 => e2 (h.one a i ha hi e3)) (h.v a b ha hb)
/-- The table tells what is behind a place: all places with a greater j, and with the same j a greater or the same i. -/
def Filled (Y : SC) (F : Tm → Tm → Nat) (V : Nat → Nat → Int) (i j : Nat) : Prop := ∀ a b, a < Y.s.length → b < Y.t.length → (j < b ∨ (b = j ∧ i ≤ a)) → V a b = (F (subT Y.ar Y.t b) (subT Y.ar Y.s a) : Int)
theorem Filled.step {Y : SC} {F : Tm → Tm → Nat} {V : Nat → Nat → Int} {i j : Nat} (h : Filled Y F V (i + 1) j) (v : Int) (hv : v = (F (subT Y.ar Y.t j) (subT Y.ar Y.s i) : Int)) : Filled Y F (putV V i j v) i j := by
  intro a b ha hb hab
  unfold putV
  by_cases e : a = i ∧ b = j
  · obtain ⟨rfl, rfl⟩ := e
    rw [if_pos ⟨rfl, rfl⟩]; exact hv
  · rw [if_neg e]
    exact h a b ha hb (by omega)
theorem Filled.next {Y : SC} {F : Tm → Tm → Nat} {V : Nat → Nat → Int} {j : Nat} (h : Filled Y F V 0 (j + 1)) : Filled Y F V Y.s.length j := fun a b ha hb hab => h a b ha hb (by omega)
theorem Filled.at_ {Y : SC} {F : Tm → Tm → Nat} {V : Nat → Nat → Int} {i j a b : Nat} {t s : Tm} (h : Filled Y F V (i + 1) j) (ha : a < Y.s.length) (hb : b < Y.t.length) (hs : subT Y.ar Y.s a = s) (ht : subT Y.ar Y.t b = t) (hab : j < b ∨ (b = j ∧ i + 1 ≤ a)) : V a b = (F t s : Int) := by
  rw [← hs, ← ht]; exact h a b ha hb hab
theorem Told.of {v : Int} {n : Nat} (h : v = (n : Int)) : Told v n := by subst h; unfold Told; omega
theorem pl_lt {i : Nat} {us : List Tm} {k : Nat} : i < pl i us k := by unfold pl; omega

end Go.Proofs.Ytejmlbcafemieaa
