/- Pairs as the laws hand them on. -/
import Derived.Test.YtoopopgbbkmcpaaArgs
import Derived.Test.YtoopopgbbkmcpaaOpenT
-- rd: RdDp RawDp
namespace Go.Proofs.Ytoopopgbbkmcpaa
open Go.RowKit
set_option linter.unusedSimpArgs false
set_option linter.unusedVariables false

/-- A pair, its terms with capacities. -/
def RdDp (w : World) (v : Value) (p : DepP) : Prop := ∃ A n c B m d, v = .agg #[.slice A n c, .slice B m d, .int .i64 p.rule, .int .i64 p.at_] ∧ (n ≤ c ∧ c ≤ 9223372036854775807) ∧ (m ≤ d ∧ d ≤ 9223372036854775807) ∧ RI w A n p.l ∧ RI w B m p.r
theorem RdDp.mk {w : World} {A B : Option Addr} {n c m d : Nat} {p : DepP} (k1 : n ≤ c ∧ c ≤ 9223372036854775807) (k2 : m ≤ d ∧ d ≤ 9223372036854775807) (h1 : RI w A n p.l) (h2 : RI w B m p.r) : RdDp w (.agg #[.slice A n c, .slice B m d, .int .i64 p.rule, .int .i64 p.at_]) p :=
  ⟨A, n, c, B, m, d, rfl, k1, k2, h1, h2⟩
theorem RdDp.ext {w w' : World} {v : Value} {p : DepP} (h : RdDp w v p) (k : Ext w w') : RdDp w' v p := by
  obtain ⟨A, n, c, B, m, d, e, k1, k2, h1, h2⟩ := h
  exact ⟨A, n, c, B, m, d, e, k1, k2, h1.ext k, h2.ext k⟩
/-- A pair, nothing of capacities. -/
def RdDq (w : World) (v : Value) (p : DepP) : Prop := ∃ A n c B m d, v = .agg #[.slice A n c, .slice B m d, .int .i64 p.rule, .int .i64 p.at_] ∧ RI w A n p.l ∧ RI w B m p.r
theorem RdDq.mk {w : World} {A B : Option Addr} {n c m d : Nat} {p : DepP} (h1 : RI w A n p.l) (h2 : RI w B m p.r) : RdDq w (.agg #[.slice A n c, .slice B m d, .int .i64 p.rule, .int .i64 p.at_]) p :=
  ⟨A, n, c, B, m, d, rfl, h1, h2⟩
theorem RdDq.ext {w w' : World} {v : Value} {p : DepP} (h : RdDq w v p) (k : Ext w w') : RdDq w' v p := by
  obtain ⟨A, n, c, B, m, d, e, h1, h2⟩ := h
  exact ⟨A, n, c, B, m, d, e, h1.ext k, h2.ext k⟩
theorem RdDp.rd {w : World} {v : Value} {p : DepP} (h : RdDp w v p) : RdDq w v p := by
  obtain ⟨A, n, c, B, m, d, e, k1, k2, h1, h2⟩ := h
  exact ⟨A, n, c, B, m, d, e, h1, h2⟩
def RawDp (w : World) (v : Value) (p : DepP) : Prop := ∃ A n c B m d, v = .agg #[.slice A n c, .slice B m d, .int .i64 p.rule, .int .i64 p.at_] ∧ RJ w A n p.l ∧ RJ w B m p.r
theorem RawDp.mk {w : World} {A B : Option Addr} {n c m d : Nat} {p : DepP} (h1 : RJ w A n p.l) (h2 : RJ w B m p.r) : RawDp w (.agg #[.slice A n c, .slice B m d, .int .i64 p.rule, .int .i64 p.at_]) p :=
  ⟨A, n, c, B, m, d, rfl, h1, h2⟩
def szDp (left : Int) (t : DepP) : Int := szI (szI left t.l.length) t.r.length
theorem szDp_bd (left : Int) (t : DepP) (h : -1 ≤ left ∧ left ≤ 1048576) : -1 ≤ szDp left t ∧ szDp left t ≤ 1048576 := szI_bd _ _ (szI_bd _ _ h)
theorem szDp_ok {left : Int} {t : DepP} (h0 : -1 ≤ left) (h : 0 ≤ szDp left t) : t.l.length ≤ left ∧ t.r.length ≤ left ∧ szDp left t ≤ left := by
  unfold szDp at h ⊢
  have h1 := szI_nonneg h
  have h2 := szI_nonneg (left := left) (n := t.l.length) (by omega)
  omega
/-- A pair of the call's own. -/
def NewDp (w : World) (p : DepP) (e : Ending) (w' : World) : Prop :=
  ∃ A n c B m d, e = .returned (.agg #[.slice A n c, .slice B m d, .int .i64 p.rule, .int .i64 p.at_]) ∧ OwI w' w.heap.size A n c p.l ∧ OwI w' w.heap.size B m d p.r ∧ Ext w w'
theorem NewDp.out {w w' : World} {p : DepP} {e : Ending} (h : NewDp w p e w') : ∃ v, e = .returned v ∧ RdDp w' v p ∧ Ext w w' := by
  obtain ⟨A, n, c, B, m, d, e, h1, h2, h3⟩ := h
  exact ⟨_, e, RdDp.mk h1.cap h2.cap h1.ri h2.ri, h3⟩

set_option maxHeartbeats 400000 in
theorem c_szDepPair {v : Value} {t : DepP} {left : Int} {w : World} (h0 : RawDp w v t) (hl : -1 ≤ left) (hl2 : left ≤ 1048576) :
    Calls Try.prog 7 #[v, .int .i64 left] w fun e w' => e = .returned (.int .i64 (szDp left t)) ∧ Ext w w' := by
  obtain ⟨A, n, c, B, m, d, rfl, ha, hb⟩ := h0
  have HA := Lib.hid ha
  have HB := Lib.hid hb
  clear ha hb
  have h1 := szI_lo left t.l.length
  have h2 := szI_le left t.l.length hl
  have h3 := szI_lo (szI left t.l.length) t.r.length
  go_enter Try.func7, Try.ntmps7
  go_wp2_with (first
    | (go_at_call 29; (with_reducible refine (c_szInt64S (xs := t.l) (by (first | (with_reducible exact RawI.mk (RJ.ext (Hid.out (by with_reducible assumption)) (by exact extX))))) hl hl2).mono ?_); rintro e w1 ⟨rfl, hE1⟩; have hz1 := sz_of hE1; (try simp only [World.size_alloc, World.size_setCell, World.size_drew] at hz1); obtain ⟨hc1, hf1⟩ := bcell hE1; (try have hq1_0 : w.heap.size < w1.heap.size := by omega); (try have hq1_1 : w.heap.size + 1 < w1.heap.size := by omega); (try have hq1_2 : w.heap.size + 1 + 1 < w1.heap.size := by omega); (try have hq1_3 : w.heap.size + 1 + 1 + 1 < w1.heap.size := by omega); (try have hq1_4 : w.heap.size + 1 + 1 + 1 + 1 < w1.heap.size := by omega); (try have hq1_5 : w.heap.size + 1 + 1 + 1 + 1 + 1 < w1.heap.size := by omega))
    | (go_at_call 29; (with_reducible refine (c_szInt64S (xs := t.r) (by (first | (with_reducible exact RawI.mk (RJ.ext (Hid.out (by with_reducible assumption)) (by exact extX))))) h1 (by omega)).mono ?_); rintro e w2 ⟨rfl, hE2⟩; have hz2 := sz_of hE2; (try simp only [World.size_alloc, World.size_setCell, World.size_drew] at hz2); obtain ⟨hc2, hf2⟩ := bcell hE2; (try have hq2_0 : w.heap.size < w2.heap.size := by omega); (try have hq2_1 : w.heap.size + 1 < w2.heap.size := by omega); (try have hq2_2 : w.heap.size + 1 + 1 < w2.heap.size := by omega); (try have hq2_3 : w.heap.size + 1 + 1 + 1 < w2.heap.size := by omega); (try have hq2_4 : w.heap.size + 1 + 1 + 1 + 1 < w2.heap.size := by omega); (try have hq2_5 : w.heap.size + 1 + 1 + 1 + 1 + 1 < w2.heap.size := by omega); (try have hx2_1 : w1.heap.size < w2.heap.size := by omega)))
  · have hneg : szI left t.l.length < 0 := by assumption
    go_ret
    exact ⟨ret_int (szI_neg hneg).symm, by exact extX⟩
  · have hneg : szI (szI left t.l.length) t.r.length < 0 := by assumption
    go_ret
    exact ⟨ret_int (by unfold szDp; omega), by exact extX⟩
  · go_ret
    exact ⟨rfl, by exact extX⟩
set_option maxHeartbeats 800000 in
theorem c_toDepPair {v : Value} {p : DepP} {w : World} (h0 : RdDq w v p) : Calls Try.prog 10 #[v] w (NewDp w p) := by
  obtain ⟨A, n, c, B, m, d, rfl, ha, hb⟩ := h0
  have HA := Lib.hid ha
  have HB := Lib.hid hb
  clear ha hb
  go_enter Try.func10, Try.ntmps10
  go_wp2_with (first
    | (go_at_call 34; (with_reducible refine (c_toInt64S (xs := p.l) (by (first | (with_reducible exact RdI.mk (RI.ext (Hid.out (by with_reducible assumption)) (by exact extX))) | (with_reducible exact RdI.ext (by with_reducible assumption) (by exact extX))))).mono ?_); rintro e w1 ⟨A1, n1, c1, rfl, hO1, hE1⟩; have HA1 := Lib.hid (OwI.bd hO1); have HR1 := Lib.hid (OwI.ri hO1); have HO1 := Lib.hid (OwI.lower (B' := w.heap.size) hO1 (by go_size)); clear hO1; have hz1 := sz_of hE1; (try simp only [World.size_alloc, World.size_setCell, World.size_drew] at hz1); obtain ⟨hc1, hf1⟩ := bcell hE1; (try have hq1_0 : w.heap.size < w1.heap.size := by omega); (try have hq1_1 : w.heap.size + 1 < w1.heap.size := by omega); (try have hq1_2 : w.heap.size + 1 + 1 < w1.heap.size := by omega); (try have hq1_3 : w.heap.size + 1 + 1 + 1 < w1.heap.size := by omega); (try have hq1_4 : w.heap.size + 1 + 1 + 1 + 1 < w1.heap.size := by omega); (try have hq1_5 : w.heap.size + 1 + 1 + 1 + 1 + 1 < w1.heap.size := by omega))
    | (go_at_call 34; (with_reducible refine (c_toInt64S (xs := p.r) (by (first | (with_reducible exact RdI.mk (RI.ext (Hid.out (by with_reducible assumption)) (by exact extX))) | (with_reducible exact RdI.ext (by with_reducible assumption) (by exact extX))))).mono ?_); rintro e w2 ⟨A2, n2, c2, rfl, hO2, hE2⟩; have HA2 := Lib.hid (OwI.bd hO2); have HR2 := Lib.hid (OwI.ri hO2); have HO2 := Lib.hid (OwI.lower (B' := w.heap.size) hO2 (by go_size)); clear hO2; have hz2 := sz_of hE2; (try simp only [World.size_alloc, World.size_setCell, World.size_drew] at hz2); obtain ⟨hc2, hf2⟩ := bcell hE2; (try have hq2_0 : w.heap.size < w2.heap.size := by omega); (try have hq2_1 : w.heap.size + 1 < w2.heap.size := by omega); (try have hq2_2 : w.heap.size + 1 + 1 < w2.heap.size := by omega); (try have hq2_3 : w.heap.size + 1 + 1 + 1 < w2.heap.size := by omega); (try have hq2_4 : w.heap.size + 1 + 1 + 1 + 1 < w2.heap.size := by omega); (try have hq2_5 : w.heap.size + 1 + 1 + 1 + 1 + 1 < w2.heap.size := by omega); (try have hx2_1 : w1.heap.size < w2.heap.size := by omega)))
  refine bodyPost_ret (v := .agg #[.slice A1 n1 c1, .slice A2 n2 c2, .int .i64 p.rule, .int .i64 p.at_]) (by simp [results, Try.results10, go_sem, hc1, hc2, hq1_0, hq1_1, hq1_2, hq2_0, hq2_1, hq2_2]) rfl ?_
  refine ⟨A1, n1, c1, A2, n2, c2, rfl, ?_, ?_, ?_⟩
  · (repeat' (first | (with_reducible refine OwI.setFar ?_ _ (far_lt HA1.out ?_)) | (with_reducible refine OwI.alloc ?_ _) | (with_reducible refine OwI.drewN ?_ _) | (with_reducible exact HO1.out) | (with_reducible refine OwI.ext ?_ (by with_reducible assumption)) | (left; go_size) | (right; go_size)))
  · (repeat' (first | (with_reducible refine OwI.setFar ?_ _ (far_lt HA2.out ?_)) | (with_reducible refine OwI.alloc ?_ _) | (with_reducible refine OwI.drewN ?_ _) | (with_reducible exact HO2.out) | (with_reducible refine OwI.ext ?_ (by with_reducible assumption)) | (left; go_size) | (right; go_size)))
  · exact extX
theorem dp_f1 {p q : DepP} (h : (!p.l == q.l) = true) : ¬ p = q := fun e => by subst e; simp at h
theorem dp_f2 {p q : DepP} (h : (!p.r == q.r) = true) : ¬ p = q := fun e => by subst e; simp at h
set_option maxHeartbeats 800000 in
theorem c_eqDepPair_self {v v' : Value} {p : DepP} {w : World} (h0 : RdDq w v p) (h1 : RdDq w v' p) :
    Calls Try.prog 13 #[v, v'] w fun e w' => e = .returned (.bool true) ∧ Ext w w' := by
  obtain ⟨A, n, c, B, m, d, rfl, ha, hb⟩ := h0
  obtain ⟨A', n', c', B', m', d', rfl, ha', hb'⟩ := h1
  have HA := Lib.hid ha
  have HB := Lib.hid hb
  have HA' := Lib.hid ha'
  have HB' := Lib.hid hb'
  clear ha hb ha' hb'
  go_enter Try.func13, Try.ntmps13
  go_wp2_with (first
    | (go_at_call 39; (with_reducible refine (c_eqInt64S_self (xs := p.l) (by (first | (with_reducible exact RdI.mk (RI.ext (Hid.out (by with_reducible assumption)) (by exact extX))) | (with_reducible exact RdI.ext (by with_reducible assumption) (by exact extX)))) (by (first | (with_reducible exact RdI.mk (RI.ext (Hid.out (by with_reducible assumption)) (by exact extX))) | (with_reducible exact RdI.ext (by with_reducible assumption) (by exact extX))))).mono ?_); rintro e w1 ⟨rfl, hE1⟩; have hz1 := sz_of hE1; (try simp only [World.size_alloc, World.size_setCell, World.size_drew] at hz1); obtain ⟨hc1, hf1⟩ := bcell hE1; (try have hq1_0 : w.heap.size < w1.heap.size := by omega); (try have hq1_1 : w.heap.size + 1 < w1.heap.size := by omega); (try have hq1_2 : w.heap.size + 1 + 1 < w1.heap.size := by omega); (try have hq1_3 : w.heap.size + 1 + 1 + 1 < w1.heap.size := by omega); (try have hq1_4 : w.heap.size + 1 + 1 + 1 + 1 < w1.heap.size := by omega); (try have hq1_5 : w.heap.size + 1 + 1 + 1 + 1 + 1 < w1.heap.size := by omega))
    | (go_at_call 39; (with_reducible refine (c_eqInt64S_self (xs := p.r) (by (first | (with_reducible exact RdI.mk (RI.ext (Hid.out (by with_reducible assumption)) (by exact extX))) | (with_reducible exact RdI.ext (by with_reducible assumption) (by exact extX)))) (by (first | (with_reducible exact RdI.mk (RI.ext (Hid.out (by with_reducible assumption)) (by exact extX))) | (with_reducible exact RdI.ext (by with_reducible assumption) (by exact extX))))).mono ?_); rintro e w2 ⟨rfl, hE2⟩; have hz2 := sz_of hE2; (try simp only [World.size_alloc, World.size_setCell, World.size_drew] at hz2); obtain ⟨hc2, hf2⟩ := bcell hE2; (try have hq2_0 : w.heap.size < w2.heap.size := by omega); (try have hq2_1 : w.heap.size + 1 < w2.heap.size := by omega); (try have hq2_2 : w.heap.size + 1 + 1 < w2.heap.size := by omega); (try have hq2_3 : w.heap.size + 1 + 1 + 1 < w2.heap.size := by omega); (try have hq2_4 : w.heap.size + 1 + 1 + 1 + 1 < w2.heap.size := by omega); (try have hq2_5 : w.heap.size + 1 + 1 + 1 + 1 + 1 < w2.heap.size := by omega); (try have hx2_1 : w1.heap.size < w2.heap.size := by omega)))
  all_goals go_ret
  all_goals exact ⟨rfl, by exact extX⟩
section
open Go.ChangeShapes Go.WideShapes Go.ChangeAt Go.Joins Go.Deep
set_option linter.constructorNameAsVariable false
variable {H : Type} {enc : TypeId × Value → H} {w : World} {base b0 : Nat} {held : Bool} {r : Reach}
set_option maxRecDepth 100000 in
theorem raw_Dp {v : Value} {d : DataW H} {p : List MemPlace} (hv : Value.okWide Try.prog w r b0 29 v) (h : DataW.Trod enc Try.prog w base (fun _ => true) held 29 v d p) : ∃ x, RawDp w v x := by
  obtain ⟨v0, v1, v2, v3, y0, y1, y2, y3, n, rfl, _, _, h0, h1, h2, h3⟩ := open_agg4 Try.underlying29 (by kernel_rfl) (by kernel_rfl) hv h
  obtain ⟨A, n0, c0, xs, e0, r0⟩ := raw_ints Try.underlying22 Try.underlying2 (by kernel_rfl) h0
  obtain ⟨B, n1, c1, ys, e1, r1⟩ := raw_ints Try.underlying22 Try.underlying2 (by kernel_rfl) h1
  obtain ⟨a, e2, _, _⟩ := DataW.trod_int Try.underlying2 h2
  obtain ⟨b, e3, _, _⟩ := DataW.trod_int Try.underlying2 h3
  simp at e0 e1 e2 e3
  subst e0 e1 e2 e3
  exact ⟨⟨xs, ys, a, b⟩, A, n0, c0, B, n1, c1, rfl, r0, r1⟩
end

end Go.Proofs.Ytoopopgbbkmcpaa
