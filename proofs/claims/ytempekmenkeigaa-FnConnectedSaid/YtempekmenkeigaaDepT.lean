/- Pairs as the laws hand them on. -/
import Derived.Test.YtempekmenkeigaaArgs
import Derived.Test.YtempekmenkeigaaOpenT
-- rd: RdDp RawDp
namespace Go.Proofs.Ytempekmenkeigaa
open Go.RowKit
set_option linter.unusedSimpArgs false
set_option linter.unusedVariables false

/-- A pair, its terms with capacities. -/
def RdDp (w : World) (v : Value) (p : DepP) : Prop := ∃ A n c B m d, v = .agg #[.slice A n c, .slice B m d, .int .i64 p.rule, .int .i64 p.at_] ∧ (n ≤ c ∧ c ≤ 9223372036854775807) ∧ (m ≤ d ∧ d ≤ 9223372036854775807) ∧ RI w A n p.l ∧ RI w B m p.r
theorem RdDp.mk {w : World} {A B : Option Addr} {n c m d : Nat} {p : DepP} (k1 : n ≤ c ∧ c ≤ 9223372036854775807) (k2 : m ≤ d ∧ d ≤ 9223372036854775807) (h1 : RI w A n p.l) (h2 : RI w B m p.r) : RdDp w (.agg #[.slice A n c, .slice B m d, .int .i64 p.rule, .int .i64 p.at_]) p :=
  ⟨A, n, c, B, m, d, rfl, k1, k2, h1, h2⟩
theorem RdDp.ext {w w' : World} {v : Value} {p : DepP} (h : RdDp w v p) (k : Ext w w') : RdDp w' v p := by
  obtain ⟨A, n, c, B, m, d, e, k1, k2, h1, h2⟩ := h
  exact ⟨A, n, c, B, m, d, e, k1, k2, h1.ext k, h2.ext k⟩
/-- A pair, nothing of capacities. -/
def RdDq (w : World) (v : Value) (p : DepP) : Prop := ∃ A n c B m d, v = .agg #[.slice A n c, .slice B m d, .int .i64 p.rule, .int .i64 p.at_] ∧ RI w A n p.l ∧ RI w B m p.r
theorem RdDq.mk {w : World} {A B : Option Addr} {n c m d : Nat} {p : DepP} (h1 : RI w A n p.l) (h2 : RI w B m p.r) : RdDq w (.agg #[.slice A n c, .slice B m d, .int .i64 p.rule, .int .i64 p.at_]) p :=
  ⟨A, n, c, B, m, d, rfl, h1, h2⟩
theorem RdDq.ext {w w' : World} {v : Value} {p : DepP} (h : RdDq w v p) (k : Ext w w') : RdDq w' v p := by
  obtain ⟨A, n, c, B, m, d, e, h1, h2⟩ := h
  exact ⟨A, n, c, B, m, d, e, h1.ext k, h2.ext k⟩
theorem RdDp.rd {w : World} {v : Value} {p : DepP} (h : RdDp w v p) : RdDq w v p := by
  obtain ⟨A, n, c, B, m, d, e, k1, k2, h1, h2⟩ := h
  exact ⟨A, n, c, B, m, d, e, h1, h2⟩
def RawDp (w : World) (v : Value) (p : DepP) : Prop := ∃ A n c B m d, v = .agg #[.slice A n c, .slice B m d, .int .i64 p.rule, .int .i64 p.at_] ∧ RJ w A n p.l ∧ RJ w B m p.r
theorem RawDp.mk {w : World} {A B : Option Addr} {n c m d : Nat} {p : DepP} (h1 : RJ w A n p.l) (h2 : RJ w B m p.r) : RawDp w (.agg #[.slice A n c, .slice B m d, .int .i64 p.rule, .int .i64 p.at_]) p :=
  ⟨A, n, c, B, m, d, rfl, h1, h2⟩
def szDp (left : Int) (t : DepP) : Int := szI (szI left t.l.length) t.r.length
theorem szDp_bd (left : Int) (t : DepP) (h : -1 ≤ left ∧ left ≤ 1048576) : -1 ≤ szDp left t ∧ szDp left t ≤ 1048576 := szI_bd _ _ (szI_bd _ _ h)
theorem szDp_ok {left : Int} {t : DepP} (h0 : -1 ≤ left) (h : 0 ≤ szDp left t) : t.l.length ≤ left ∧ t.r.length ≤ left ∧ szDp left t ≤ left := by
  unfold szDp at h ⊢
  have h1 := szI_nonneg h
  have h2 := szI_nonneg (left := left) (n := t.l.length) (by omega)
  omega
/-- A pair of the call's own. -/
def NewDp (w : World) (p : DepP) (e : Ending) (w' : World) : Prop :=
  ∃ A n c B m d, e = .returned (.agg #[.slice A n c, .slice B m d, .int .i64 p.rule, .int .i64 p.at_]) ∧ OwI w' w.heap.size A n c p.l ∧ OwI w' w.heap.size B m d p.r ∧ Ext w w'
theorem NewDp.out {w w' : World} {p : DepP} {e : Ending} (h : NewDp w p e w') : ∃ v, e = .returned v ∧ RdDp w' v p ∧ Ext w w' := by
  obtain ⟨A, n, c, B, m, d, e, h1, h2, h3⟩ := h
  exact ⟨_, e, RdDp.mk h1.cap h2.cap h1.ri h2.ri, h3⟩

theorem dp_f1 {p q : DepP} (h : (!p.l == q.l) = true) : ¬ p = q := fun e => by subst e; simp at h
theorem dp_f2 {p q : DepP} (h : (!p.r == q.r) = true) : ¬ p = q := fun e => by subst e; simp at h
section
open Go.ChangeShapes Go.WideShapes Go.ChangeAt Go.Joins Go.Deep
set_option linter.constructorNameAsVariable false
variable {H : Type} {enc : TypeId × Value → H} {w : World} {base b0 : Nat} {held : Bool} {r : Reach}
end

end Go.Proofs.Ytempekmenkeigaa
