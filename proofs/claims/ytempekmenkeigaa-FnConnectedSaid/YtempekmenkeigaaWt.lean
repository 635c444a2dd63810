import Derived.Test.YtempekmenkeigaaRank
-- rd: RdWt RawWt
namespace Go.Proofs.Ytempekmenkeigaa
open Go.RowKit
set_option linter.unusedSimpArgs false
set_option linter.unusedVariables false

/-- Weights. -/
def RdWt (w : World) (v : Value) (t : Wt) : Prop := ∃ A n c B m d, v = .agg #[.int .i64 t.var, .slice A n c, .slice B m d] ∧ RI w A n t.sym ∧ RI w B m t.rank
theorem RdWt.mk {w : World} {A B : Option Addr} {n c m d : Nat} {t : Wt} (h1 : RI w A n t.sym) (h2 : RI w B m t.rank) : RdWt w (.agg #[.int .i64 t.var, .slice A n c, .slice B m d]) t :=
  ⟨A, n, c, B, m, d, rfl, h1, h2⟩
theorem RdWt.mk' {w : World} {A B : Option Addr} {n c m d : Nat} {x : Int} {xs ys : List Int} (h1 : RI w A n xs) (h2 : RI w B m ys) : RdWt w (.agg #[.int .i64 x, .slice A n c, .slice B m d]) ⟨x, xs, ys⟩ :=
  ⟨A, n, c, B, m, d, rfl, h1, h2⟩
theorem RdWt.ext {w w' : World} {v : Value} {t : Wt} (h : RdWt w v t) (k : Ext w w') : RdWt w' v t := by
  obtain ⟨A, n, c, B, m, d, e, h1, h2⟩ := h
  exact ⟨A, n, c, B, m, d, e, h1.ext k, h2.ext k⟩
def RawWt (w : World) (v : Value) (t : Wt) : Prop := (∃ A n c B m d, v = .agg #[.int .i64 t.var, .slice A n c, .slice B m d] ∧ RJ w A n t.sym ∧ RJ w B m t.rank) ∧ -9223372036854775808 ≤ t.var ∧ t.var ≤ 9223372036854775807
theorem RawWt.mk {w : World} {A B : Option Addr} {n c m d : Nat} {t : Wt} (h1 : RJ w A n t.sym) (h2 : RJ w B m t.rank) (h3 : -9223372036854775808 ≤ t.var ∧ t.var ≤ 9223372036854775807) : RawWt w (.agg #[.int .i64 t.var, .slice A n c, .slice B m d]) t :=
  ⟨⟨A, n, c, B, m, d, rfl, h1, h2⟩, h3⟩
def szWt (left : Int) (t : Wt) : Int := szI (szI left t.sym.length) t.rank.length
theorem szWt_bd (left : Int) (t : Wt) (h : -1 ≤ left ∧ left ≤ 1048576) : -1 ≤ szWt left t ∧ szWt left t ≤ 1048576 := szI_bd _ _ (szI_bd _ _ h)
theorem szWt_ok {left : Int} {t : Wt} (h0 : -1 ≤ left) (h : 0 ≤ szWt left t) : t.sym.length ≤ left ∧ t.rank.length ≤ left ∧ szWt left t ≤ left := by
  unfold szWt at h ⊢
  have h1 := szI_nonneg h
  have h2 := szI_nonneg (left := left) (n := t.sym.length) (by omega)
  omega
/-- Weights of the call's own. -/
def NewWt (w : World) (t : Wt) (e : Ending) (w' : World) : Prop :=
  ∃ A n c B m d, e = .returned (.agg #[.int .i64 t.var, .slice A n c, .slice B m d]) ∧ OwI w' w.heap.size A n c t.sym ∧ OwI w' w.heap.size B m d t.rank ∧ (∀ g o s, A = some ⟨g, o, s⟩ → ∀ g' o' s', B = some ⟨g', o', s'⟩ → g ≠ g') ∧ Ext w w'
theorem NewWt.out {w w' : World} {t : Wt} {e : Ending} (h : NewWt w t e w') : ∃ v, e = .returned v ∧ RdWt w' v t ∧ Ext w w' := by
  obtain ⟨A, n, c, B, m, d, e, h1, h2, _, h3⟩ := h
  exact ⟨_, e, RdWt.mk h1.ri h2.ri, h3⟩




end Go.Proofs.Ytempekmenkeigaa
