/- Pairs as the laws hand them on. -/
import Derived.Test.YthbfngobdnknjaaArgs
import Derived.Test.YthbfngobdnknjaaOpenT
-- rd: RdDp RawDp
namespace Go.Proofs.Ythbfngobdnknjaa
open Go.RowKit
set_option linter.unusedSimpArgs false
set_option linter.unusedVariables false

/-- A pair, its terms with capacities. -/
def RdDp (w : World) (v : Value) (p : DepP) : Prop := ∃ A n c B m d, v = .agg #[.slice A n c, .slice B m d, .int .i64 p.rule, .int .i64 p.at_] ∧ (n ≤ c ∧ c ≤ 9223372036854775807) ∧ (m ≤ d ∧ d ≤ 9223372036854775807) ∧ RI w A n p.l ∧ RI w B m p.r
theorem RdDp.mk {w : World} {A B : Option Addr} {n c m d : Nat} {p : DepP} (k1 : n ≤ c ∧ c ≤ 9223372036854775807) (k2 : m ≤ d ∧ d ≤ 9223372036854775807) (h1 : RI w A n p.l) (h2 : RI w B m p.r) : RdDp w (.agg #[.slice A n c, .slice B m d, .int .i64 p.rule, .int .i64 p.at_]) p :=
  ⟨A, n, c, B, m, d, rfl, k1, k2, h1, h2⟩
theorem RdDp.ext {w w' : World} {v : Value} {p : DepP} (h : RdDp w v p) (k : Ext w w') : RdDp w' v p := by
  obtain ⟨A, n, c, B, m, d, e, k1, k2, h1, h2⟩ := h
  exact ⟨A, n, c, B, m, d, e, k1, k2, h1.ext k, h2.ext k⟩
/-- A pair, nothing of capacities. -/
def RdDq (w : World) (v : Value) (p : DepP) : Prop := ∃ A n c B m d, v = .agg #[.slice A n c, .slice B m d, .int .i64 p.rule, .int .i64 p.at_] ∧ RI w A n p.l ∧ RI w B m p.r
theorem RdDq.mk {w : World} {A B : Option Addr} {n c m d : Nat} {p : DepP} (h1 : RI w A n p.l) (h2 : RI w B m p.r) : RdDq w (.agg #[.slice A n c, .slice B m d, .int .i64 p.rule, .int .i64 p.at_]) p :=
  ⟨A, n, c, B, m, d, rfl, h1, h2⟩
theorem RdDq.ext {w w' : World} {v : Value} {p : DepP} (h : RdDq w v p) (k : Ext w w') : RdDq w' v p := by
  obtain ⟨A, n, c, B, m, d, e, h1, h2⟩ := h
  exact ⟨A, n, c, B, m, d, e, h1.ext k, h2.ext k⟩
theorem RdDp.rd {w : World} {v : Value} {p : DepP} (h : RdDp w v p) : RdDq w v p := by
  obtain ⟨A, n, c, B, m, d, e, k1, k2, h1, h2⟩ := h
  exact ⟨A, n, c, B, m, d, e, h1, h2⟩
def RawDp (w : World) (v : Value) (p : DepP) : Prop := ∃ A n c B m d, v = .agg #[.slice A n c, .slice B m d, .int .i64 p.rule, .int .i64 p.at_] ∧ RJ w A n p.l ∧ RJ w B m p.r
theorem RawDp.mk {w : World} {A B : Option Addr} {n c m d : Nat} {p : DepP} (h1 : RJ w A n p.l) (h2 : RJ w B m p.r) : RawDp w (.agg #[.slice A n c, .slice B m d, .int .i64 p.rule, .int .i64 p.at_]) p :=
  ⟨A, n, c, B, m, d, rfl, h1, h2⟩
def szDp (left : Int) (t : DepP) : Int := szI (szI left t.l.length) t.r.length
theorem szDp_bd (left : Int) (t : DepP) (h : -1 ≤ left ∧ left ≤ 1048576) : -1 ≤ szDp left t ∧ szDp left t ≤ 1048576 := szI_bd _ _ (szI_bd _ _ h)
theorem szDp_ok {left : Int} {t : DepP} (h0 : -1 ≤ left) (h : 0 ≤ szDp left t) : t.l.length ≤ left ∧ t.r.length ≤ left ∧ szDp left t ≤ left := by
  unfold szDp at h ⊢
  have h1 := szI_nonneg h
  have h2 := szI_nonneg (left := left) (n := t.l.length) (by omega)
  omega
/-- A pair of the call's own. -/
def NewDp (w : World) (p : DepP) (e : Ending) (w' : World) : Prop :=
  ∃ A n c B m d, e = .returned (.agg #[.slice A n c, .slice B m d, .int .i64 p.rule, .int .i64 p.at_]) ∧ OwI w' w.heap.size A n c p.l ∧ OwI w' w.heap.size B m d p.r ∧ Ext w w'
theorem NewDp.out {w w' : World} {p : DepP} {e : Ending} (h : NewDp w p e w') : ∃ v, e = .returned v ∧ RdDp w' v p ∧ Ext w w' := by
  obtain ⟨A, n, c, B, m, d, e, h1, h2, h3⟩ := h
  exact ⟨_, e, RdDp.mk h1.cap h2.cap h1.ri h2.ri, h3⟩

theorem dp_f1 {p q : DepP} (h : (!p.l == q.l) = true) : ¬ p = q := fun e => by subst e; simp at h
theorem dp_f2 {p q : DepP} (h : (!p.r == q.r) = true) : ¬ p = q := fun e => by subst e; simp at h
set_option maxHeartbeats 800000 in
theorem c_eqDepPair_self {v v' : Value} {p : DepP} {w : World} (h0 : RdDq w v p) (h1 : RdDq w v' p) :
    Calls Try.prog 71 #[v, v'] w fun e w' => e = .returned (.bool true) ∧ Ext w w' := by
  obtain ⟨A, n, c, B, m, d, rfl, ha, hb⟩ := h0
  obtain ⟨A', n', c', B', m', d', rfl, ha', hb'⟩ := h1
  have HA := Lib.hid ha
  have HB := Lib.hid hb
  have HA' := Lib.hid ha'
  have HB' := Lib.hid hb'
  clear ha hb ha' hb'
  go_enter Try.func71, Try.ntmps71
  go_wp2_with (first
    | (go_at_call 12; (with_reducible refine (c_eqInt64S_self (xs := p.l) (by (first | (with_reducible exact RdI.mk (RI.ext (Hid.out (by with_reducible assumption)) (by (repeat' (first | (with_reducible exact Ext.refl _) | (with_reducible assumption) | (with_reducible refine Ext.alloc ?_ _) | (with_reducible refine Ext.set ?_ ?_ _) | (with_reducible refine Ext.drewN ?_ _) | (with_reducible refine Ext.drew ?_) | (with_reducible refine Ext.trans ?_ (by with_reducible assumption)) | go_size))))) | (with_reducible exact RdI.ext (by with_reducible assumption) (by (repeat' (first | (with_reducible exact Ext.refl _) | (with_reducible assumption) | (with_reducible refine Ext.alloc ?_ _) | (with_reducible refine Ext.set ?_ ?_ _) | (with_reducible refine Ext.drewN ?_ _) | (with_reducible refine Ext.drew ?_) | (with_reducible refine Ext.trans ?_ (by with_reducible assumption)) | go_size)))))) (by (first | (with_reducible exact RdI.mk (RI.ext (Hid.out (by with_reducible assumption)) (by (repeat' (first | (with_reducible exact Ext.refl _) | (with_reducible assumption) | (with_reducible refine Ext.alloc ?_ _) | (with_reducible refine Ext.set ?_ ?_ _) | (with_reducible refine Ext.drewN ?_ _) | (with_reducible refine Ext.drew ?_) | (with_reducible refine Ext.trans ?_ (by with_reducible assumption)) | go_size))))) | (with_reducible exact RdI.ext (by with_reducible assumption) (by (repeat' (first | (with_reducible exact Ext.refl _) | (with_reducible assumption) | (with_reducible refine Ext.alloc ?_ _) | (with_reducible refine Ext.set ?_ ?_ _) | (with_reducible refine Ext.drewN ?_ _) | (with_reducible refine Ext.drew ?_) | (with_reducible refine Ext.trans ?_ (by with_reducible assumption)) | go_size))))))).mono ?_); rintro e w1 ⟨rfl, hE1⟩; have hz1 := sz_of hE1; (try simp only [World.size_alloc, World.size_setCell, World.size_drew] at hz1); obtain ⟨hc1, hf1⟩ := bcell hE1; (try have hq1_0 : w.heap.size < w1.heap.size := by omega); (try have hq1_1 : w.heap.size + 1 < w1.heap.size := by omega); (try have hq1_2 : w.heap.size + 1 + 1 < w1.heap.size := by omega); (try have hq1_3 : w.heap.size + 1 + 1 + 1 < w1.heap.size := by omega); (try have hq1_4 : w.heap.size + 1 + 1 + 1 + 1 < w1.heap.size := by omega); (try have hq1_5 : w.heap.size + 1 + 1 + 1 + 1 + 1 < w1.heap.size := by omega))
    | (go_at_call 12; (with_reducible refine (c_eqInt64S_self (xs := p.r) (by (first | (with_reducible exact RdI.mk (RI.ext (Hid.out (by with_reducible assumption)) (by (repeat' (first | (with_reducible exact Ext.refl _) | (with_reducible assumption) | (with_reducible refine Ext.alloc ?_ _) | (with_reducible refine Ext.set ?_ ?_ _) | (with_reducible refine Ext.drewN ?_ _) | (with_reducible refine Ext.drew ?_) | (with_reducible refine Ext.trans ?_ (by with_reducible assumption)) | go_size))))) | (with_reducible exact RdI.ext (by with_reducible assumption) (by (repeat' (first | (with_reducible exact Ext.refl _) | (with_reducible assumption) | (with_reducible refine Ext.alloc ?_ _) | (with_reducible refine Ext.set ?_ ?_ _) | (with_reducible refine Ext.drewN ?_ _) | (with_reducible refine Ext.drew ?_) | (with_reducible refine Ext.trans ?_ (by with_reducible assumption)) | go_size)))))) (by (first | (with_reducible exact RdI.mk (RI.ext (Hid.out (by with_reducible assumption)) (by (repeat' (first | (with_reducible exact Ext.refl _) | (with_reducible assumption) | (with_reducible refine Ext.alloc ?_ _) | (with_reducible refine Ext.set ?_ ?_ _) | (with_reducible refine Ext.drewN ?_ _) | (with_reducible refine Ext.drew ?_) | (with_reducible refine Ext.trans ?_ (by with_reducible assumption)) | go_size))))) | (with_reducible exact RdI.ext (by with_reducible assumption) (by (repeat' (first | (with_reducible exact Ext.refl _) | (with_reducible assumption) | (with_reducible refine Ext.alloc ?_ _) | (with_reducible refine Ext.set ?_ ?_ _) | (with_reducible refine Ext.drewN ?_ _) | (with_reducible refine Ext.drew ?_) | (with_reducible refine Ext.trans ?_ (by with_reducible assumption)) | go_size))))))).mono ?_); rintro e w2 ⟨rfl, hE2⟩; have hz2 := sz_of hE2; (try simp only [World.size_alloc, World.size_setCell, World.size_drew] at hz2); obtain ⟨hc2, hf2⟩ := bcell hE2; (try have hq2_0 : w.heap.size < w2.heap.size := by omega); (try have hq2_1 : w.heap.size + 1 < w2.heap.size := by omega); (try have hq2_2 : w.heap.size + 1 + 1 < w2.heap.size := by omega); (try have hq2_3 : w.heap.size + 1 + 1 + 1 < w2.heap.size := by omega); (try have hq2_4 : w.heap.size + 1 + 1 + 1 + 1 < w2.heap.size := by omega); (try have hq2_5 : w.heap.size + 1 + 1 + 1 + 1 + 1 < w2.heap.size := by omega); (try have hx2_1 : w1.heap.size < w2.heap.size := by omega)))
  all_goals go_ret
  all_goals exact ⟨rfl, by (repeat' (first | (with_reducible exact Ext.refl _) | (with_reducible assumption) | (with_reducible refine Ext.alloc ?_ _) | (with_reducible refine Ext.set ?_ ?_ _) | (with_reducible refine Ext.drewN ?_ _) | (with_reducible refine Ext.drew ?_) | (with_reducible refine Ext.trans ?_ (by with_reducible assumption)) | go_size))⟩
section
open Go.ChangeShapes Go.WideShapes Go.ChangeAt Go.Joins Go.Deep
set_option linter.constructorNameAsVariable false
variable {H : Type} {enc : TypeId × Value → H} {w : World} {base b0 : Nat} {held : Bool} {r : Reach}
end

end Go.Proofs.Ythbfngobdnknjaa
